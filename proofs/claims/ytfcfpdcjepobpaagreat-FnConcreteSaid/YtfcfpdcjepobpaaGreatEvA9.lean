import Derived.Test.YtfcfpdcjepobpaaGreatEvA8
import Derived.Lib.Join
import Derived.Lib.ItoaNum
import Derived.Test.YtfcfpdcjepobpaaGreatEvA7
import Derived.Laws.IdiomCopy
set_option linter.unusedSimpArgs false
set_option linter.unusedVariables false
set_option linter.unnecessarySimpa false
noncomputable section
namespace Go.Ev
def gtT (a b:ByteArray):Bool:=!(Op.bytesLess a.toList b.toList || a.toList == b.toList)
def ltT (a b:ByteArray):Bool:=Op.bytesLess a.toList b.toList
section
variable (P:Program) (t:TypeId) (x y:Operand) (a b:ByteArray)
@[simp] theorem tb_gtS:binAV P .gtr t x y (.one (.s (.string a))) (.one (.s (.string b)))=some (.bool (gtT a b)):=by
 simp [binAV,sclr,eqGuard,binOp,Op.stringOp,pureOf,pure,bind,Sem.bind,scal,gtT]
@[simp] theorem tb_ltS:binAV P .lss t x y (.one (.s (.string a))) (.one (.s (.string b)))=some (.bool (ltT a b)):=by
 simp [binAV,sclr,eqGuard,binOp,Op.stringOp,pureOf,pure,bind,Sem.bind,scal,ltT]
end
def minI (a b:Int):Int:=if b < a then b else a
def minAV (P:Program) (ts:Array TypeId) (ty:TypeId) (X Y:AV):Option Value :=
 if (sclr X).isSome && (sclr Y).isSome then
  match pureOf P (Builtin.min_ ts ty #[(sclr X).getD undef,(sclr Y).getD undef]) with
  | some v=>if scal v then some v else none
  | none=>none
 else none
theorem ex_min (ρ:Operand→Value) (dst:Option Nat) (pos:String) (after:Array Edge) (ty:TypeId) (guard:Option (Nat × Bool)) (ts:Array TypeId) (x y:Operand) :
 execOp ρ { dst,op:=.call { callee:=.builtin .min,args:=#[x,y],argTypes:=ts },type:=ty,pos,after,guard }=(do pure (.value (← Builtin.min_ ts ty #[ρ x,ρ y]))):=by
 simp [execOp,resolve,invoke,builtin]
theorem opE_min (g:Cfg) (d f:Nat) (σ:St) (dst:Option Nat) (pos:String) (after:Array Edge) (ty:TypeId) (guard:Option (Nat × Bool)) (ts:Array TypeId) (x y:Operand) :
 opE g d f { dst,op:=.call { callee:=.builtin .min,args:=#[x,y],argTypes:=ts },type:=ty,pos,after,guard } σ=(minAV g.P ts ty (opnd σ.env x) (opnd σ.env y)).map fun v=>(.one (.s v),σ):=by
 have:scalarOp g.P σ.env { dst,op:=.call { callee:=.builtin .min,args:=#[x,y],argTypes:=ts },type:=ty,pos,after,guard }=minAV g.P ts ty (opnd σ.env x) (opnd σ.env y):=by
  unfold scalarOp minAV
  have h1:(Op.call { callee:=.builtin .min,args:=#[x,y],argTypes:=ts }).operands.all (fun x=>(sclr (opnd σ.env x)).isSome)=((sclr (opnd σ.env x)).isSome && (sclr (opnd σ.env y)).isSome):=by
   rw [show (Op.call { callee:=.builtin .min,args:=#[x,y],argTypes:=ts }).operands = #[x,y] from rfl]
   have h:∀ p:Operand→Bool,#[x,y].all p=(p x && p y):=fun p=>by simp
   exact h _
  simp only [h1]
  split
  ·have h3:execOp (fun x=>(sclr (opnd σ.env x)).getD undef) { dst,op:=.call { callee:=.builtin .min,args:=#[x,y],argTypes:=ts },type:=ty,pos,after,guard }=(do pure (.value (← Builtin.min_ ts ty #[(sclr (opnd σ.env x)).getD undef,(sclr (opnd σ.env y)).getD undef]))):=ex_min ..
   rw [h3,zbx]
   generalize pureOf g.P (Builtin.min_ ts ty #[(sclr (opnd σ.env x)).getD undef,(sclr (opnd σ.env y)).getD undef])=q
   cases q with
   | none=>rfl
   | some v=>rfl
  ·rfl
 simp only [opE,this]
 cases minAV g.P ts ty (opnd σ.env x) (opnd σ.env y) <;> rfl
theorem s_min {g:Cfg} {d f:Nat} (dst:Option Nat) (pos:String) (after:Array Edge) (ty:TypeId) (guard:Option (Nat × Bool)) (ts:Array TypeId) (ops:Array Oper) (l:List Oper) (K:List It) (σ:St) (x y:Operand) :
 stK g d f ops { dst,op:=.call { callee:=.builtin .min,args:=#[x,y],argTypes:=ts },type:=ty,pos,after,guard } l K σ=putK g d f ops dst l K ((minAV g.P ts ty (opnd σ.env x) (opnd σ.env y)).map fun v=>(.one (.s v),σ)):=by
 rw [st_op _ _ _ _ _ (by simp),opE_min]
@[simp] theorem min_int (P:Program) (ts:Array TypeId) (ty:TypeId) (a b:Int):minAV P ts ty (.one (.s (.int .i64 a))) (.one (.s (.int .i64 b)))=some (.int .i64 (minI a b)):=by
 have h:pureOf P (Builtin.min_ ts ty #[.int .i64 a,.int .i64 b])=some (.int .i64 (minI a b)):=rfl
 simp [minAV,sclr,h,scal]
attribute [simp] s_min
end Go.Ev


namespace Go.Ev
open Go.RowKit
def joinL (l:List ByteArray) (sep:ByteArray):List UInt8:=Lib.join (l.map (·.data.toList)) sep.data.toList
def joinF (l:List ByteArray) (sep:ByteArray):Option ByteArray:=if l.length≤1000000∧(joinL l sep).length≤1000000000 then some ⟨(joinL l sep).toArray⟩ else none
def digF (n:Int):Option ByteArray:=if 0≤n∧n < 10 then some ⟨#[UInt8.ofNat (48+n.toNat)]⟩ else none

theorem two_args {w:World} {G:Gh} {vals:Array Value} {x y:AV} (h:ArgsOK w G [x,y] vals):∃ u v,vals = #[u,v]∧(∀ d t,RA w G (.slot d t) x u)∧∀ d t,RA w G (.slot d t) y v:=by
 obtain ⟨h1,h2⟩:=h
 obtain ⟨u,hu,hr⟩:=h2 0 x rfl
 obtain ⟨v,hv,hs⟩:=h2 1 y rfl
 refine ⟨u,v,?_,hr,hs⟩
 apply Array.ext_getElem?
 intro i
 match i with
 | 0=>rw [hu];rfl
 | 1=>rw [hv];rfl
 | i+2=>rw [Array.getElem?_eq_none (by rw [h1];simp)];rfl

theorem encL_strs (xs:List ByteArray):encL xs=xs.map fun x=>D.sc (.string x):=by
 induction xs with
 | nil=>rfl
 | cons x xs ih=>rw [zdi,ih];rfl
theorem pc_join {P:Program} {f:Nat} (hE:Enters P f)
 (h0:∀ (a:Option Addr) (c:Nat) (sep:ByteArray) (w:World),Calls P f #[.slice a 0 c,.string sep] w fun e w'=>e=.returned (.string ⟨#[]⟩)∧Below w.heap.size w w')
 (h1:∀ (b o c:Nat) (xs:List ByteArray) (sep:ByteArray) (w:World),xs≠[]→(∀ (j:Nat) x,xs[j]?=some x→w.cell? ⟨b,o+j,none⟩=some (.string x))→b < w.heap.size→xs.length≤1000000→xs.length≤c→(joinL xs sep).length≤1000000000 →
  Calls P f #[.slice (some ⟨b,o,none⟩) xs.length c,.string sep] w fun e w'=>e=.returned (.string ⟨(joinL xs sep).toArray⟩)∧Below w.heap.size w w') :
 PC P f (specP (X:=List ByteArray × ByteArray × Unit) fun x=>joinF x.1 x.2.1):=by
 refine ⟨hE,fun args r hr G w vals hG hL hage hA=>?_⟩
 unfold specP at hr
 split at hr
 ·rename_i hx
  obtain ⟨y,hy,rfl⟩:=Option.map_eq_some_iff.1 hr
  have ha:=Classical.choose_spec hx
  generalize Classical.choose hx=x at hy ha
  subst ha
  obtain ⟨xs,sep,_⟩:=x
  simp only [joinF] at hy
  split at hy
  ·rename_i hc
   cases hy
   obtain ⟨v,v',rfl,hv,hv'⟩:=two_args (x:=av .shr xs) (y:=av .shr sep) hA
   obtain ⟨rfl,_⟩:v'=.string sep∧_:=hv' 0 0
   have hv:RD w G (.slot 0 0) .shr [] (.sl xs.length (encL xs)) v:=hv 0 0
   rw [RD] at hv
   rcases hv with ⟨e0,e1,a,cap,rfl,_⟩|⟨e0,e1,b,off,cap,rfl,hcap,_,hs⟩
   ·have:xs=[]:=List.length_eq_zero_iff.1 e1
    subst this
    refine (h0 a cap sep w).mono fun e w' hh=>?_
    obtain ⟨rfl,hb⟩:=hh
    exact ⟨_,G,rfl,⟨by simp [joinL,Lib.join_nil],rfl⟩,hb.size,zgp hb hb.size,fun b hlt=>⟨hb.block b hlt,rfl,rfl⟩,fun b t ho=>Nat.lt_of_lt_of_le (hG b t ho).2 hb.size⟩
   ·have hcell:∀ (j:Nat) x,xs[j]?=some x→w.cell? ⟨b,off+j,none⟩=some (.string x):=fun j x hj=>by
     obtain ⟨u,hu,hr⟩:=zov hs j (.sc (.string x)) (by
      rw [encL_strs,List.getElem?_map,hj];rfl)
     rw [RD] at hr
     obtain ⟨rfl,_⟩:=hr
     simpa using hu
    have hne:xs≠[]:=fun h=>by subst h;simp at e1
    have hb:b < w.heap.size:=zjv (hcell 0 xs[0] (List.getElem?_eq_getElem e1))
    refine (h1 b off cap xs sep w hne hcell hb hc.1 hcap hc.2).mono fun e w' hh=>?_
    obtain ⟨rfl,hb⟩:=hh
    exact ⟨_,G,rfl,⟨rfl,rfl⟩,hb.size,zgp hb hb.size,fun b hlt=>⟨hb.block b hlt,rfl,rfl⟩,fun b t ho=>Nat.lt_of_lt_of_le (hG b t ho).2 hb.size⟩
  ·cases hy
 ·cases hr

theorem pc_dig {P:Program} {f:Nat} (hE:Enters P f) (h:∀ (k:Nat) (w:World),k < 10→Calls P f #[.int .i64 k] w fun e w'=>e=.returned (.string ⟨#[UInt8.ofNat (48+k)]⟩)∧Below w.heap.size w w') :
 PC P f (specP (X:=Int × Unit) fun x=>digF x.1):=by
 refine ⟨hE,fun args r hr G w vals hG hL hage hA=>?_⟩
 unfold specP at hr
 split at hr
 ·rename_i hx
  obtain ⟨y,hy,rfl⟩:=Option.map_eq_some_iff.1 hr
  have ha:=Classical.choose_spec hx
  generalize Classical.choose hx=x at hy ha
  subst ha
  obtain ⟨k,_⟩:=x
  simp only [digF] at hy
  split at hy
  ·rename_i hc
   cases hy
   obtain ⟨n,rfl⟩:=Int.eq_ofNat_of_zero_le hc.1
   obtain ⟨v,rfl,hv⟩:=one_arg (x:=av .shr (n:Int)) hA
   obtain ⟨rfl,_⟩:v=.int .i64 n∧_:=hv 0 0
   refine (h n w (by omega)).mono fun e w' hh=>?_
   obtain ⟨rfl,hb⟩:=hh
   exact ⟨_,G,rfl,⟨rfl,rfl⟩,hb.size,zgp hb hb.size,fun b hlt=>⟨hb.block b hlt,rfl,rfl⟩,fun b t ho=>Nat.lt_of_lt_of_le (hG b t ho).2 hb.size⟩
  ·cases hy
 ·cases hr
end Go.Ev


namespace Go.Ev

structure Mvd (w:World) (G:Gh) (w':World) (G':Gh) (o:Ow) (p:List Nat) (o':Ow) (p':List Nat):Prop where
 tag:∀ b q,b < w.heap.size→G.own b=some (.at o (p ++ q))→G'.own b=some (.at o' (p' ++ q))∧G'.use b=G.use b∧w'.heap[b]?=w.heap[b]?
 nil:∀ b,b < w.heap.size→G.own b=none→G'.own b=none∧G.use b≤G'.use b∧w'.heap[b]?=w.heap[b]?

theorem Mvd.sub {w:World} {G:Gh} {w':World} {G':Gh} {o:Ow} {p:List Nat} {o':Ow} {p':List Nat} (h:Mvd w G w' G' o p o' p') (i:List Nat) :
 Mvd w G w' G' o (p ++ i) o' (p' ++ i) :=
 ⟨fun b q hb hq=>by rw [List.append_assoc] at hq ⊢; exact h.tag b (i ++ q) hb hq,h.nil⟩

theorem cell_heap {w w':World} {b:Nat} (h:w'.heap[b]?=w.heap[b]?) (o:Nat):w'.cell? ⟨b,o,none⟩=w.cell? ⟨b,o,none⟩:=by
 unfold World.cell?
 simp only [h]

mutual
theorem Mvd.rd {w:World} {G:Gh} {w':World} {G':Gh} {o:Ow} {p:List Nat} {o':Ow} {p':List Nat} (h:Mvd w G w' G' o p o' p') :
 ∀ {d:D} {m:Md} {v:Value},m≠.bor→RD w G o m p d v→RD w' G' o' m p' d v
 | .sc x,m,v,_,hr=>by rw [RD] at hr ⊢; exact hr
 | .sl n cs,m,v,hm,hr=>by
  rw [RD] at hr ⊢
  rcases hr with hr | ⟨h1,h2,b,off,cap,hv,hc,hn,hs⟩
  ·exact .inl hr
  ·obtain ⟨c,cs',rfl⟩:=List.exists_cons_of_ne_nil h1
   have hb:b < w.heap.size:=by
    rw [RDs] at hs
    obtain ⟨⟨v',hv',_⟩,_⟩:=hs
    exact zjv hv'
   have hh:w'.heap[b]?=w.heap[b]?:=by
    cases m with
    | own=>exact (h.tag b [] hb (by simpa using hn.1)).2.2
    | top=>exact (h.tag b [] hb (by simpa using hn.1)).2.2
    | shr=>exact (h.nil b hb hn.1).2.2
    | bor=>exact absurd rfl hm
   refine .inr ⟨h1,h2,b,off,cap,hv,hc,?_,Mvd.rds h hb hh (by cases m <;> simp_all [Md.elem]) hs⟩
   cases m with
   | own=>exact ⟨by simpa using (h.tag b [] hb (by simpa using hn.1)).1,by rw [(h.tag b [] hb (by simpa using hn.1)).2.1];exact hn.2.1,hn.2.2.1,by rw [hh];exact hn.2.2.2⟩
   | top=>exact ⟨by simpa using (h.tag b [] hb (by simpa using hn.1)).1,by rw [(h.tag b [] hb (by simpa using hn.1)).2.1];exact hn.2.1,hn.2.2.1,by rw [hh];exact hn.2.2.2⟩
   | shr=>exact ⟨(h.nil b hb hn.1).1,Nat.le_trans hn.2 (h.nil b hb hn.1).2.1⟩
   | bor=>exact absurd rfl hm
theorem Mvd.rds {w:World} {G:Gh} {w':World} {G':Gh} {o:Ow} {p:List Nat} {o':Ow} {p':List Nat} (h:Mvd w G w' G' o p o' p') :
 ∀ {cs:List D} {m:Md} {b off i:Nat},b < w.heap.size→w'.heap[b]?=w.heap[b]?→m≠.bor→RDs w G o m p b off i cs→RDs w' G' o' m p' b off i cs
 | [],m,b,off,i,_,_,_,_=>by rw [RDs];trivial
 | d :: ds,m,b,off,i,hb,hh,hm,hr=>by
  rw [RDs] at hr ⊢
  obtain ⟨⟨v,hv,hd⟩,hr⟩:=hr
  exact ⟨⟨v,by rw [cell_heap hh];exact hv,Mvd.rd (h.sub [i]) hm hd⟩,Mvd.rds h hb hh hm hr⟩
end

structure InsOK (w w':World) (base:Option Addr) (t sz n:Nat) (vs us:List Value) (v:Value):Prop where
 val:∃ (g cap:Nat) (arr:Array Value) (e:TypeId),v=.slice (some ⟨g,0,none⟩) (n+1) cap∧n+1≤cap∧w'.heap[g]?=some (.cells arr e (0,0))∧cap * sz≤arr.size ∧
  (∀ j:Nat,(vs.take t ++ us ++ vs.drop t)[j]?≠none→arr[j]?=(vs.take t ++ us ++ vs.drop t)[j]?)∧(w.heap.size≤g∨0 < n∧base=some ⟨g,0,none⟩)
 size:w.heap.size≤w'.heap.size
 kept:Kept w w'
 same:∀ b,b < w.heap.size→(0 < n→base≠some ⟨b,0,none⟩)→w'.heap[b]?=w.heap[b]?

end Go.Ev


namespace Go.Ev
def zaq (s:(List Int)):Option (List Int):=zjd 8 s

def zdq (s:(List (List Int))):Option (List Int):=zjw 8 s

def zgg (l:List ByteArray) (s:ByteArray):Option ByteArray:=joinF l s

def zcb (n:Int):Option ByteArray:=digF n

def laws_big (code:(List U8)):Option (Bool) :=
 some (ltI 1048576 (code.length:Int))

def zfd (code:(List U8)):Option (TL1Cur) :=
 (iter (ρ:=Int) (fun s_1:Int × Int =>
 cond (ltI s_1.2 (code.length:Int))
 (cond (ltI s_1.2 4000)
 ((at? code s_1.2).bind fun e_10 =>
 some (.inl (andI (addI (addI (mulI s_1.1 131) (cvtI e_10.v)) 7) 1073741823,addI s_1.2 1)))
 (some (.inr s_1.1)))
 (some (.inr s_1.1))) (addI 26583 (code.length:Int),0)).bind fun r_15 =>
 some (⟨code,0,r_15⟩:TL1Cur)

def zav (x_:Int) (lo:Int) (hi:Int):Option (Bool) :=
 cond (leI lo x_)
 (some (leI x_ hi))
 (some false)

def zdv (h_:THeap):Option (Bool) :=
 (iter (ρ:=(Unit) ⊕ (Unit)) (fun s_1:Int =>
 cond (ltI s_1 (h_.vars.length:Int))
 ((at? h_.vars s_1).bind fun e_9 =>
 (zav e_9 (-1) (subI (h_.next.length:Int) 1)).bind fun y_14 =>
 cond y_14
 (some (.inl (addI s_1 1)))
 (some (.inr (.inl ()))))
 (some (.inr (.inr ())))) 0).bind fun r_18 =>
 Sum.elim (fun _r_18 =>
 some false)
 (fun _r_18 =>
 (iter (ρ:=(Bool) ⊕ (Unit)) (fun s_26:Int =>
 cond (ltI s_26 (h_.next.length:Int))
 ((at? h_.next s_26).bind fun e_34 =>
 (zav e_34 (-1) (subI (h_.next.length:Int) 1)).bind fun y_39 =>
 cond y_39
 (some (.inl (addI s_26 1)))
 (some (.inr (.inl false))))
 (some (.inr (.inr ())))) 0).bind fun r_43 =>
 Sum.elim (fun r_43 =>
 some r_43)
 (fun _r_43 =>
 some true) r_43) r_18

def zca (list:(List Int)) (n_:Int):Option ((List Int)) :=
 (iter (ρ:=(List Int)) (fun s_1:(List Int) × Int =>
 cond (ltI s_1.2 (list.length:Int))
 ((at? list s_1.2).bind fun e_9 =>
 cond (eqI e_9 n_)
 ((room (s_1.1.length + [s_1.2].length) 8).bind fun _ =>
 some (.inl (s_1.1 ++ [s_1.2],addI s_1.2 1)))
 (some (.inl (s_1.1,addI s_1.2 1))))
 (some (.inr s_1.1))) ([],0)).bind fun r_17 =>
 some r_17

def zcl (list:(List Int)) (n_:Int):Option (Bool) :=
 (zca list n_).bind fun y_1 =>
 some (ltI 0 (y_1.length:Int))

def zcy (h_:THeap) (cell:Int):Option ((List Int)) :=
 (iter (ρ:=((List Int)) ⊕ (Unit)) (fun s_1:Int × (List Int) =>
 cond (neI s_1.1 (-1))
 ((zcl s_1.2 s_1.1).bind fun y_9 =>
 cond y_9
 (some (.inr (.inl s_1.2)))
 ((zav s_1.1 0 (subI (h_.next.length:Int) 1)).bind fun y_13 =>
 cond y_13
 ((room (s_1.2.length + [s_1.1].length) 8).bind fun _ =>
 (at? h_.next s_1.1).bind fun e_19 =>
 some (.inl (e_19,s_1.2 ++ [s_1.1])))
 (some (.inr (.inr ())))))
 (some (.inr (.inl s_1.2)))) (cell,[])).bind fun r_24 =>
 Sum.elim (fun r_24 =>
 some r_24)
 (fun _r_24 =>
 some []) r_24

def zeo (h_:THeap):Option ((List Int)) :=
 (iter (ρ:=(List Int)) (fun s_1:(List Int) × Int =>
 cond (ltI s_1.2 (h_.vars.length:Int))
 ((at? h_.vars s_1.2).bind fun e_9 =>
 (zcy h_ e_9).bind fun y_14 =>
 (iter (ρ:=(List Int)) (fun s_17:Int × (List Int) =>
 cond (ltI s_17.1 (y_14.length:Int))
 ((at? y_14 s_17.1).bind fun e_25 =>
 (zcl s_17.2 e_25).bind fun y_30 =>
 cond y_30
 (some (.inl (addI s_17.1 1,s_17.2)))
 ((at? y_14 s_17.1).bind fun _ =>
 (room (s_17.2.length + [e_25].length) 8).bind fun _ =>
 some (.inl (addI s_17.1 1,s_17.2 ++ [e_25]))))
 (some (.inr s_17.2))) (0,s_1.1)).bind fun r_41 =>
 some (.inl (r_41,addI s_1.2 1)))
 (some (.inr s_1.1))) ([],0)).bind fun r_46 =>
 some r_46

def zfb (order:(List Int)) (cell:Int):Option (Int) :=
 (zca order cell).bind fun y_1 =>
 cond (eqI (y_1.length:Int) 0)
 (some (-1))
 ((at? y_1 0).bind fun e_5 =>
 some e_5)

def zeg (h_:THeap):Option (THeap) :=
 (zdv h_).bind fun y_1 =>
 cond y_1
 ((zeo h_).bind fun y_5 =>
 (iter (ρ:=(List Int)) (fun s_8:Int × (List Int) =>
 cond (ltI s_8.1 (h_.vars.length:Int))
 ((at? h_.vars s_8.1).bind fun e_16 =>
 (zfb y_5 e_16).bind fun y_21 =>
 (room (s_8.2.length + [y_21].length) 8).bind fun _ =>
 some (.inl (addI s_8.1 1,s_8.2 ++ [y_21])))
 (some (.inr s_8.2))) (0,[])).bind fun r_26 =>
 (iter (ρ:=(List Int)) (fun s_31:Int × (List Int) =>
 cond (ltI s_31.1 (y_5.length:Int))
 ((at? y_5 s_31.1).bind fun e_39 =>
 (at? h_.next e_39).bind fun e_44 =>
 (zfb y_5 e_44).bind fun y_49 =>
 (room (s_31.2.length + [y_49].length) 8).bind fun _ =>
 some (.inl (addI s_31.1 1,s_31.2 ++ [y_49])))
 (some (.inr s_31.2))) (0,[])).bind fun r_54 =>
 some (⟨r_26,r_54⟩:THeap))
 (some (⟨[],[]⟩:THeap))

def zge (on:Bool):Option (Int) :=
 cond on
 (some 2)
 (some 0)

def zco (h_:THeap):Option (TStructure) :=
 (zdv h_).bind fun y_1 =>
 cond y_1
 (cond (ltI 10 (h_.next.length:Int))
 (some (⟨[],[]⟩:TStructure))
 ((zav (h_.vars.length:Int) 1 4).bind fun y_6 =>
 cond y_6
 ((iter (ρ:=(List TNode) × (List Int)) (fun s_10:Int × (List TNode) × (List Int) =>
 cond (ltI s_10.1 (h_.next.length:Int))
 ((zca h_.next s_10.1).bind fun y_18 =>
 (zge (ltI 1 (y_18.length:Int))).bind fun y_21 =>
 (iter (ρ:=(List Int) × (List Int)) (fun s_25:Int × (List Int) × (List Int) =>
 cond (ltI s_25.1 (h_.vars.length:Int))
 ((at? h_.vars s_25.1).bind fun e_33 =>
 (zge (eqI e_33 s_10.1)).bind fun y_38 =>
 (room (s_25.2.1.length + [y_38].length) 8).bind fun _ =>
 (at? h_.vars s_25.1).bind fun _ =>
 (zcy h_ e_33).bind fun y_48 =>
 (zcl y_48 s_10.1).bind fun y_51 =>
 (zge y_51).bind fun y_54 =>
 (room (s_25.2.2.length + [y_54].length) 8).bind fun _ =>
 some (.inl (addI s_25.1 1,s_25.2.1 ++ [y_38],s_25.2.2 ++ [y_54])))
 (some (.inr (s_25.2.1,s_25.2.2)))) (0,[],[])).bind fun r_59 =>
 (room (s_10.2.1.length + [(⟨r_59.1,r_59.2,y_21,0⟩:TNode)].length) 64).bind fun _ =>
 (iter (ρ:=(List Int)) (fun s_66:Int × (List Int) =>
 cond (ltI s_66.1 (h_.next.length:Int))
 ((at? h_.next s_10.1).bind fun e_74 =>
 (zge (eqI e_74 s_66.1)).bind fun y_79 =>
 (room (s_66.2.length + [y_79].length) 8).bind fun _ =>
 some (.inl (addI s_66.1 1,s_66.2 ++ [y_79])))
 (some (.inr s_66.2))) (0,s_10.2.2)).bind fun r_84 =>
 some (.inl (addI s_10.1 1,s_10.2.1 ++ [(⟨r_59.1,r_59.2,y_21,0⟩:TNode)],r_84)))
 (some (.inr (s_10.2.1,s_10.2.2)))) (0,[],[])).bind fun r_89 =>
 some (⟨r_89.1,r_89.2⟩:TStructure))
 (some (⟨[],[]⟩:TStructure))))
 (some (⟨[],[]⟩:TStructure))

def zdl (s:TStructure):Option (Int) :=
 cond (eqI (s.nodes.length:Int) 0)
 (some 0)
 ((at? s.nodes 0).bind fun e_2 =>
 some (e_2.vars.length:Int))

def zbc (a_:Int):Option (Bool) :=
 (zav a_ 0 2).bind fun y_1 =>
 some y_1

def zcv (list:(List Int)):Option (Bool) :=
 (iter (ρ:=(Unit) ⊕ (Unit)) (fun s_1:Int =>
 cond (ltI s_1 (list.length:Int))
 ((at? list s_1).bind fun e_9 =>
 (zbc e_9).bind fun y_14 =>
 cond y_14
 (some (.inl (addI s_1 1)))
 (some (.inr (.inl ()))))
 (some (.inr (.inr ())))) 0).bind fun r_18 =>
 Sum.elim (fun _r_18 =>
 some false)
 (fun _r_18 =>
 some true) r_18

def zcp (vars:Int) (s:TStructure):Option (Bool) :=
 (iter (ρ:=(Unit) ⊕ (Unit)) (fun s_1:Int =>
 cond (ltI s_1 (s.nodes.length:Int))
 ((at? s.nodes s_1).bind fun e_9 =>
 cond (neI (e_9.vars.length:Int) vars)
 (some (.inr (.inl ())))
 (cond (neI (e_9.reach.length:Int) vars)
 (some (.inr (.inl ())))
 ((zcv e_9.vars).bind fun y_17 =>
 cond y_17
 ((zcv e_9.reach).bind fun y_21 =>
 cond y_21
 ((zbc e_9.shared).bind fun y_25 =>
 cond y_25
 ((zav e_9.many 0 1).bind fun y_29 =>
 cond y_29
 (some (.inl (addI s_1 1)))
 (some (.inr (.inl ()))))
 (some (.inr (.inl ()))))
 (some (.inr (.inl ()))))
 (some (.inr (.inl ()))))))
 (some (.inr (.inr ())))) 0).bind fun r_33 =>
 Sum.elim (fun _r_33 =>
 some false)
 (fun _r_33 =>
 (zav vars 1 4).bind fun y_41 =>
 cond y_41
 (cond (leI (s.nodes.length:Int) 10)
 (cond (eqI (s.next.length:Int) (mulI (s.nodes.length:Int) (s.nodes.length:Int)))
 ((zcv s.next).bind fun y_47 =>
 some y_47)
 (some false))
 (some false))
 (some false)) r_33

def zcm (x_:TNode):Option (TNode) :=
 (room (([]:List Int).length+x_.vars.length) 8).bind fun _ =>
 (room (([]:List Int).length+x_.reach.length) 8).bind fun _ =>
 some x_

def zcn (s:TStructure):Option (TStructure) :=
 (room (([]:List Int).length+s.next.length) 8).bind fun _ =>
 (iter (ρ:=(List TNode)) (fun s_3:Int × (List TNode) =>
 cond (ltI s_3.1 (s.nodes.length:Int))
 ((at? s.nodes s_3.1).bind fun e_11 =>
 (zcm e_11).bind fun y_16 =>
 (room (s_3.2.length + [y_16].length) 64).bind fun _ =>
 some (.inl (addI s_3.1 1,s_3.2 ++ [y_16])))
 (some (.inr s_3.2))) (0,[])).bind fun r_21 =>
 some (⟨r_21,s.next⟩:TStructure)

def zbp (s:TStructure):Option (Int) :=
 cond (eqI (s.nodes.length:Int) 0)
 (some 0)
 ((zdl s).bind fun y_2 =>
 some (addI (mulI 2 y_2) 1))

def zgc (list:(List Int)) (k_:Int):Option (Int) :=
 (zav k_ 0 (subI (list.length:Int) 1)).bind fun y_1 =>
 cond y_1
 ((at? list k_).bind fun e_5 =>
 some e_5)
 (some 1)

def zde (s:TStructure) (k_:Int) (i:Int):Option (Int) :=
 (zdl s).bind fun y_1 =>
 (zav i 0 (subI (s.nodes.length:Int) 1)).bind fun y_4 =>
 cond y_4
 ((zav k_ 0 (subI y_1 1)).bind fun y_8 =>
 cond y_8
 ((at? s.nodes i).bind fun e_12 =>
 (zgc e_12.vars k_).bind fun y_17 =>
 some y_17)
 ((zav k_ y_1 (subI (mulI 2 y_1) 1)).bind fun y_20 =>
 cond y_20
 ((at? s.nodes i).bind fun e_24 =>
 (zgc e_24.reach (subI k_ y_1)).bind fun y_29 =>
 some y_29)
 (cond (eqI k_ (mulI 2 y_1))
 ((at? s.nodes i).bind fun e_33 =>
 some e_33.shared)
 (some 1))))
 (some 1)

def zcw (a_:Int):Option (ByteArray) :=
 (zbc a_).bind fun y_1 =>
 cond y_1
 ((sub? (⟨#[48,63,49]⟩:ByteArray) a_ (addI a_ 1)).bind fun z_5 =>
 some z_5)
 (some (⟨#[]⟩:ByteArray))

def zev (s:TStructure) (i:Int):Option (ByteArray) :=
 (zav i 0 (subI (s.nodes.length:Int) 1)).bind fun y_1 =>
 cond y_1
 ((zbp s).bind fun y_5 =>
 (iter (ρ:=ByteArray) (fun s_8:ByteArray × Int =>
 cond (ltI s_8.2 y_5)
 ((zde s s_8.2 i).bind fun y_16 =>
 (zcw y_16).bind fun y_19 =>
 (catS s_8.1 y_19).bind fun z_22 =>
 some (.inl (z_22,addI s_8.2 1)))
 (some (.inr s_8.1))) ((⟨#[]⟩:ByteArray),0)).bind fun r_25 =>
 some r_25)
 (some (⟨#[]⟩:ByteArray))

def zfu (s:TStructure):Option (List (List Int)) :=
 groupsT zev s

def zep (s:TStructure) (group:(List Int)):Option (TNode) :=
 (at? group 0).bind fun e_1 =>
 (at? s.nodes e_1).bind fun e_6 =>
 (zcm e_6).bind fun y_11 =>
 (iter (ρ:=Int) (fun s_14:Int × Int =>
 cond (ltI s_14.1 (group.length:Int))
 (cond (ltI 1 (group.length:Int))
 (some (.inl (addI s_14.1 1,1)))
 ((at? group s_14.1).bind fun e_23 =>
 (at? s.nodes e_23).bind fun e_28 =>
 cond (neI e_28.many 0)
 (some (.inl (addI s_14.1 1,1)))
 (some (.inl (addI s_14.1 1,s_14.2)))))
 (some (.inr s_14.2))) (0,y_11.many)).bind fun r_34 =>
 some (⟨y_11.vars,y_11.reach,y_11.shared,r_34⟩:TNode)

def zbo (s:TStructure) (i:Int) (j:Int):Option (Int) :=
 (zav i 0 (subI (s.nodes.length:Int) 1)).bind fun y_1 =>
 cond y_1
 ((zav j 0 (subI (s.nodes.length:Int) 1)).bind fun y_5 =>
 cond y_5
 (cond (neI (s.next.length:Int) (mulI (s.nodes.length:Int) (s.nodes.length:Int)))
 (some 1)
 ((at? s.next (addI (mulI i (s.nodes.length:Int)) j)).bind fun e_10 =>
 some e_10))
 (some 1))
 (some 1)

def zfy (a_:Int) (b_:Int):Option (Int) :=
 cond (neI a_ b_)
 (some 1)
 ((zbc a_).bind fun y_2 =>
 cond y_2
 (some a_)
 (some 1))

def zeq (s:TStructure) (a_:(List Int)) (b_:(List Int)):Option (Int) :=
 (at? a_ 0).bind fun e_1 =>
 (at? b_ 0).bind fun e_6 =>
 (zbo s e_1 e_6).bind fun y_11 =>
 (iter (ρ:=Int) (fun s_14:Int × Int =>
 cond (ltI s_14.2 (a_.length:Int))
 ((iter (ρ:=Int) (fun s_22:Int × Int =>
 cond (ltI s_22.2 (b_.length:Int))
 ((at? a_ s_14.2).bind fun e_30 =>
 (at? b_ s_22.2).bind fun e_35 =>
 (zbo s e_30 e_35).bind fun y_40 =>
 (zfy s_22.1 y_40).bind fun y_43 =>
 some (.inl (y_43,addI s_22.2 1)))
 (some (.inr s_22.1))) (s_14.1,0)).bind fun r_46 =>
 some (.inl (r_46,addI s_14.2 1)))
 (some (.inr s_14.1))) (y_11,0)).bind fun r_51 =>
 some r_51

def zgv (s:TStructure):Option (TStructure) :=
 cond (eqI (s.nodes.length:Int) 0)
 (some (⟨[],[]⟩:TStructure))
 ((zdl s).bind fun y_2 =>
 (zcp y_2 s).bind fun y_5 =>
 cond y_5
 ((zfu s).bind fun y_9 =>
 (iter (ρ:=(List TNode) × (List Int)) (fun s_12:Int × (List TNode) × (List Int) =>
 cond (ltI s_12.1 (y_9.length:Int))
 ((at? y_9 s_12.1).bind fun e_20 =>
 (zep s e_20).bind fun y_25 =>
 (room (s_12.2.1.length + [y_25].length) 64).bind fun _ =>
 (iter (ρ:=(List Int)) (fun s_30:Int × (List Int) =>
 cond (ltI s_30.1 (y_9.length:Int))
 ((at? y_9 s_12.1).bind fun _ =>
 (at? y_9 s_30.1).bind fun e_43 =>
 (zeq s e_20 e_43).bind fun y_48 =>
 (room (s_30.2.length + [y_48].length) 8).bind fun _ =>
 some (.inl (addI s_30.1 1,s_30.2 ++ [y_48])))
 (some (.inr s_30.2))) (0,s_12.2.2)).bind fun r_53 =>
 some (.inl (addI s_12.1 1,s_12.2.1 ++ [y_25],r_53)))
 (some (.inr (s_12.2.1,s_12.2.2)))) (0,[],[])).bind fun r_58 =>
 some (⟨r_58.1,r_58.2⟩:TStructure))
 ((zcn s).bind fun y_63 =>
 some y_63))

def zch (h_:THeap):Option (TStructure) :=
 (zco h_).bind fun y_1 =>
 (zgv y_1).bind fun y_4 =>
 some y_4

def zfk (s:ByteArray):Option (Bool) :=
 (iter (ρ:=(Unit) ⊕ (Unit)) (fun s_1:Int =>
 cond (ltI s_1 (s.size:Int))
 ((chr? s s_1).bind fun e_9 =>
 cond (ltI e_9 97)
 (some (.inr (.inl ())))
 ((chr? s s_1).bind fun _ =>
 cond (ltI 122 e_9)
 (some (.inr (.inl ())))
 (some (.inl (addI s_1 1)))))
 (some (.inr (.inr ())))) 0).bind fun r_15 =>
 Sum.elim (fun _r_15 =>
 some false)
 (fun _r_15 =>
 (zav (s.size:Int) 1 2).bind fun y_23 =>
 some y_23) r_15

def zer (list:(List ByteArray)) (s:ByteArray):Option (Int) :=
 (iter (ρ:=(Int) ⊕ (Unit)) (fun s_1:Int =>
 cond (ltI s_1 (list.length:Int))
 ((at? list s_1).bind fun e_9 =>
 cond (eqS e_9 s)
 (some (.inr (.inl s_1)))
 (some (.inl (addI s_1 1))))
 (some (.inr (.inr ())))) 0).bind fun r_15 =>
 Sum.elim (fun r_15 =>
 some r_15)
 (fun _r_15 =>
 some (-1)) r_15

def zdo (list:(List ByteArray)):Option (Bool) :=
 (iter (ρ:=(Unit) ⊕ (Unit)) (fun s_1:Int =>
 cond (ltI s_1 (list.length:Int))
 ((at? list s_1).bind fun e_9 =>
 (zfk e_9).bind fun y_14 =>
 cond y_14
 ((at? list s_1).bind fun _ =>
 (zer list e_9).bind fun y_23 =>
 cond (neI y_23 s_1)
 (some (.inr (.inl ())))
 (some (.inl (addI s_1 1))))
 (some (.inr (.inl ()))))
 (some (.inr (.inr ())))) 0).bind fun r_27 =>
 Sum.elim (fun _r_27 =>
 some false)
 (fun _r_27 =>
 (zav (list.length:Int) 1 4).bind fun y_35 =>
 some y_35) r_27

def zdm (list:(List Int)):Option (ByteArray) :=
 (iter (ρ:=ByteArray) (fun s_1:ByteArray × Int =>
 cond (ltI s_1.2 (list.length:Int))
 ((at? list s_1.2).bind fun e_9 =>
 (zcw e_9).bind fun y_14 =>
 (catS s_1.1 y_14).bind fun z_17 =>
 some (.inl (z_17,addI s_1.2 1)))
 (some (.inr s_1.1))) ((⟨#[]⟩:ByteArray),0)).bind fun r_20 =>
 some r_20

def zfj (s:TStructure) (i:Int):Option (ByteArray) :=
 (at? s.nodes i).bind fun e_1 =>
 (zdm e_1.vars).bind fun y_6 =>
 (zdm e_1.reach).bind fun y_9 =>
 (catS y_6 y_9).bind fun z_12 =>
 (zcw e_1.shared).bind fun y_15 =>
 (catS z_12 y_15).bind fun z_18 =>
 cond (eqI e_1.many 1)
 ((catS z_18 (⟨#[42]⟩:ByteArray)).bind fun z_22 =>
 (iter (ρ:=(List ByteArray)) (fun s_25:(List ByteArray) × Int =>
 cond (ltI s_25.2 (s.nodes.length:Int))
 ((zbo s i s_25.2).bind fun y_33 =>
 cond (eqI y_33 2)
 ((zcb s_25.2).bind fun y_37 =>
 (room (s_25.1.length + [y_37].length) 16).bind fun _ =>
 some (.inl (s_25.1 ++ [y_37],addI s_25.2 1)))
 (cond (eqI y_33 1)
 ((zcb s_25.2).bind fun y_43 =>
 (catS y_43 (⟨#[63]⟩:ByteArray)).bind fun z_46 =>
 (room (s_25.1.length + [z_46].length) 16).bind fun _ =>
 some (.inl (s_25.1 ++ [z_46],addI s_25.2 1)))
 (some (.inl (s_25.1,addI s_25.2 1)))))
 (some (.inr s_25.1))) ([],0)).bind fun r_51 =>
 cond (ltI 0 (r_51.length:Int))
 ((catS z_22 (⟨#[62]⟩:ByteArray)).bind fun z_57 =>
 (zgg r_51 (⟨#[44]⟩:ByteArray)).bind fun y_60 =>
 (catS z_57 y_60).bind fun z_63 =>
 some z_63)
 (some z_22))
 ((iter (ρ:=(List ByteArray)) (fun s_66:(List ByteArray) × Int =>
 cond (ltI s_66.2 (s.nodes.length:Int))
 ((zbo s i s_66.2).bind fun y_74 =>
 cond (eqI y_74 2)
 ((zcb s_66.2).bind fun y_78 =>
 (room (s_66.1.length + [y_78].length) 16).bind fun _ =>
 some (.inl (s_66.1 ++ [y_78],addI s_66.2 1)))
 (cond (eqI y_74 1)
 ((zcb s_66.2).bind fun y_84 =>
 (catS y_84 (⟨#[63]⟩:ByteArray)).bind fun z_87 =>
 (room (s_66.1.length + [z_87].length) 16).bind fun _ =>
 some (.inl (s_66.1 ++ [z_87],addI s_66.2 1)))
 (some (.inl (s_66.1,addI s_66.2 1)))))
 (some (.inr s_66.1))) ([],0)).bind fun r_92 =>
 cond (ltI 0 (r_92.length:Int))
 ((catS z_18 (⟨#[62]⟩:ByteArray)).bind fun z_98 =>
 (zgg r_92 (⟨#[44]⟩:ByteArray)).bind fun y_101 =>
 (catS z_98 y_101).bind fun z_104 =>
 some z_104)
 (some z_18))

def zbb (vars:(List ByteArray)) (s:TStructure):Option (ByteArray) :=
 (zdo vars).bind fun y_1 =>
 cond y_1
 ((zcp (vars.length:Int) s).bind fun y_5 =>
 cond y_5
 ((iter (ρ:=(List ByteArray)) (fun s_9:(List ByteArray) × Int =>
 cond (ltI s_9.2 (s.nodes.length:Int))
 ((zfj s s_9.2).bind fun y_17 =>
 (room (s_9.1.length + [y_17].length) 16).bind fun _ =>
 some (.inl (s_9.1 ++ [y_17],addI s_9.2 1)))
 (some (.inr s_9.1))) ([],0)).bind fun r_22 =>
 cond (eqI (r_22.length:Int) 0)
 (some (⟨#[45]⟩:ByteArray))
 ((zgg r_22 (⟨#[32]⟩:ByteArray)).bind fun y_28 =>
 some y_28))
 (some (⟨#[]⟩:ByteArray)))
 (some (⟨#[]⟩:ByteArray))

def zed (s:TStructure):Option (ByteArray) :=
 cond (eqI (s.nodes.length:Int) 0)
 (some (⟨#[45]⟩:ByteArray))
 ((zdl s).bind fun y_2 =>
 (zav y_2 1 4).bind fun y_5 =>
 cond y_5
 ((slc [(⟨#[97]⟩:ByteArray),(⟨#[98]⟩:ByteArray),(⟨#[99]⟩:ByteArray),(⟨#[100]⟩:ByteArray)] 0 y_2).bind fun z_9 =>
 (zbb z_9 s).bind fun y_16 =>
 some y_16)
 (some (⟨#[]⟩:ByteArray)))

def zew (set:(List TStructure)) (s:TStructure):Option ((List TStructure)) :=
 (zgv s).bind fun y_1 =>
 (zed y_1).bind fun y_4 =>
 (iter (ρ:=Bool) (fun s_7:Bool × Int =>
 cond (ltI s_7.2 (set.length:Int))
 (cond s_7.1
 (some (.inl (true,addI s_7.2 1)))
 ((at? set s_7.2).bind fun e_16 =>
 (zed e_16).bind fun y_21 =>
 some (.inl (eqS y_21 y_4,addI s_7.2 1))))
 (some (.inr s_7.1))) (false,0)).bind fun r_24 =>
 (iter (ρ:=(List TStructure) × Bool) (fun s_29:(List TStructure) × Int × Bool =>
 cond (ltI s_29.2.1 (set.length:Int))
 (cond s_29.2.2
 ((at? set s_29.2.1).bind fun e_38 =>
 (zcn e_38).bind fun y_43 =>
 (room (s_29.1.length + [y_43].length) 48).bind fun _ =>
 some (.inl (s_29.1 ++ [y_43],addI s_29.2.1 1,s_29.2.2)))
 ((at? set s_29.2.1).bind fun e_48 =>
 (zed e_48).bind fun y_53 =>
 cond (gtT y_53 y_4)
 ((zcn y_1).bind fun y_57 =>
 (room (s_29.1.length + [y_57].length) 48).bind fun _ =>
 (at? set s_29.2.1).bind fun _ =>
 (zcn e_48).bind fun y_67 =>
 (room ((s_29.1 ++ [y_57]).length + [y_67].length) 48).bind fun _ =>
 some (.inl ((s_29.1 ++ [y_57]) ++ [y_67],addI s_29.2.1 1,true)))
 ((at? set s_29.2.1).bind fun _ =>
 (zcn e_48).bind fun y_77 =>
 (room (s_29.1.length + [y_77].length) 48).bind fun _ =>
 some (.inl (s_29.1 ++ [y_77],addI s_29.2.1 1,s_29.2.2)))))
 (some (.inr (s_29.1,s_29.2.2)))) ([],0,r_24)).bind fun r_82 =>
 cond r_82.2
 (some r_82.1)
 ((zcn y_1).bind fun y_88 =>
 (room (r_82.1.length + [y_88].length) 48).bind fun _ =>
 some (r_82.1 ++ [y_88]))

def zdd (c:TL1Cur):Option ((Int) × TL1Cur) :=
 cond (ltI c.i (c.b.length:Int))
 ((at? c.b c.i).bind fun e_2 =>
 some (andI (addI (andI (xorI (shrI (addI (mulI c.h 6364136223846793005) 1442695040888963407) 33) (shrI (addI (mulI c.h 6364136223846793005) 1442695040888963407) 45)) 255) (cvtI e_2.v)) 255,(⟨c.b,addI c.i 1,addI (mulI c.h 6364136223846793005) 1442695040888963407⟩:TL1Cur)))
 (some (andI (xorI (shrI (addI (mulI c.h 6364136223846793005) 1442695040888963407) 33) (shrI (addI (mulI c.h 6364136223846793005) 1442695040888963407) 45)) 255,(⟨c.b,c.i,addI (mulI c.h 6364136223846793005) 1442695040888963407⟩:TL1Cur)))

def zbr (c:TL1Cur) (n_:Int):Option ((Int) × TL1Cur) :=
 cond (leI n_ 0)
 (some (0,c))
 (cond (leI n_ 256)
 ((zdd c).bind fun y_3 =>
 (remQ y_3.1 n_).bind fun z_5 =>
 some (z_5,y_3.2))
 ((zdd c).bind fun y_8 =>
 (zdd y_8.2).bind fun y_10 =>
 (zdd y_10.2).bind fun y_12 =>
 (zdd y_12.2).bind fun y_14 =>
 (remQ (addI (addI (addI (mulI y_8.1 16777216) (mulI y_10.1 65536)) (mulI y_12.1 256)) y_14.1) n_).bind fun z_16 =>
 some (z_16,y_14.2)))

def zeu (c:TL1Cur) (n_:Int):Option ((Bool) × TL1Cur) :=
 (zbr c n_).bind fun y_1 =>
 some (eqI y_1.1 0,y_1.2)

def zfh (c:TL1Cur) (vars:Int):Option ((THeap) × TL1Cur) :=
 (zbr c 6).bind fun y_3 =>
 (iter (ρ:=(List U8) × Int × Int × (List Int)) (fun s_5:Int × (List U8) × Int × Int × (List Int) =>
 cond (ltI s_5.1 y_3.1)
 ((zeu (⟨s_5.2.1,s_5.2.2.1,s_5.2.2.2.1⟩:TL1Cur) 4).bind fun y_13 =>
 cond y_13.1
 ((zbr y_13.2 (addI s_5.1 1)).bind fun y_16 =>
 (room (s_5.2.2.2.2.length + [subI y_16.1 1].length) 8).bind fun _ =>
 some (.inl (addI s_5.1 1,y_16.2.b,y_16.2.i,y_16.2.h,s_5.2.2.2.2 ++ [subI y_16.1 1])))
 ((room (s_5.2.2.2.2.length + [subI s_5.1 1].length) 8).bind fun _ =>
 some (.inl (addI s_5.1 1,y_13.2.b,y_13.2.i,y_13.2.h,s_5.2.2.2.2 ++ [subI s_5.1 1]))))
 (some (.inr (s_5.2.1,s_5.2.2.1,s_5.2.2.2.1,s_5.2.2.2.2)))) (0,y_3.2.b,y_3.2.i,y_3.2.h,[])).bind fun r_22 =>
 (iter (ρ:=(List U8) × Int × Int × (List Int)) (fun s_27:Int × (List U8) × Int × Int × (List Int) =>
 cond (ltI s_27.1 vars)
 ((zbr (⟨s_27.2.1,s_27.2.2.1,s_27.2.2.2.1⟩:TL1Cur) (addI y_3.1 1)).bind fun y_35 =>
 cond (eqI s_27.1 0)
 ((zeu y_35.2 2).bind fun y_38 =>
 cond y_38.1
 ((room (s_27.2.2.2.2.length + [subI y_3.1 1].length) 8).bind fun _ =>
 some (.inl (addI s_27.1 1,y_38.2.b,y_38.2.i,y_38.2.h,s_27.2.2.2.2 ++ [subI y_3.1 1])))
 ((room (s_27.2.2.2.2.length + [subI y_35.1 1].length) 8).bind fun _ =>
 some (.inl (addI s_27.1 1,y_38.2.b,y_38.2.i,y_38.2.h,s_27.2.2.2.2 ++ [subI y_35.1 1]))))
 ((room (s_27.2.2.2.2.length + [subI y_35.1 1].length) 8).bind fun _ =>
 some (.inl (addI s_27.1 1,y_35.2.b,y_35.2.i,y_35.2.h,s_27.2.2.2.2 ++ [subI y_35.1 1]))))
 (some (.inr (s_27.2.1,s_27.2.2.1,s_27.2.2.2.1,s_27.2.2.2.2)))) (0,r_22.1,r_22.2.1,r_22.2.2.1,[])).bind fun r_47 =>
 (zeg (⟨r_47.2.2.2,r_22.2.2.2⟩:THeap)).bind fun y_52 =>
 some (y_52,(⟨r_47.1,r_47.2.1,r_47.2.2.1⟩:TL1Cur))

def zec (c:TL1Cur):Option (((List TStructure)) × TL1Cur) :=
 (zbr c 2).bind fun y_1 =>
 (iter (ρ:=(List TStructure) × (List U8) × Int × Int) (fun s_3:(List TStructure) × Int × (List U8) × Int × Int =>
 cond (ltI s_3.2.1 (addI 1 y_1.1))
 ((zfh (⟨s_3.2.2.1,s_3.2.2.2.1,s_3.2.2.2.2⟩:TL1Cur) 2).bind fun y_11 =>
 (zch y_11.1).bind fun y_13 =>
 (zew s_3.1 y_13).bind fun y_16 =>
 some (.inl (y_16,addI s_3.2.1 1,y_11.2.b,y_11.2.i,y_11.2.h)))
 (some (.inr (s_3.1,s_3.2.2.1,s_3.2.2.2.1,s_3.2.2.2.2)))) ([],0,y_1.2.b,y_1.2.i,y_1.2.h)).bind fun r_19 =>
 some (r_19.1,(⟨r_19.2.1,r_19.2.2.1,r_19.2.2.2⟩:TL1Cur))

def zfc (c:TL1Cur) (list:(List Int)):Option ((Int) × TL1Cur) :=
 (zbr c (list.length:Int)).bind fun y_1 =>
 (at? list y_1.1).bind fun e_3 =>
 some (e_3,y_1.2)

def zbh (code:(List U8)):Option (Int × (List TStructure) × Int) :=
 (zfd code).bind fun y_1 =>
 (zec y_1).bind fun y_3 =>
 (zfc y_3.2 [2,2,2,3]).bind fun y_5 =>
 (zfc y_5.2 [0,1,2,2,4]).bind fun y_7 =>
 some (y_5.1,y_3.1,y_7.1)

def zcs (n_:Int) (low:Int) (high:Int):Option (Bool) :=
 cond (leI low n_)
 (some (leI n_ high))
 (some false)

def zbe (h_:THeap) (n_:Int):Option (Bool) :=
 (zcs n_ 0 (subI (h_.next.length:Int) 1)).bind fun y_1 =>
 some y_1

def zem (s:(List Int)) (f_:(Int→Option (Bool))):Option (Int) :=
 (iter (ρ:=(Int) ⊕ (Unit)) (fun s_1:Int =>
 cond (ltI s_1 (s.length:Int))
 ((at? s s_1).bind fun e_10 =>
 (f_ e_10).bind fun y_15 =>
 cond y_15
 (some (.inr (.inl s_1)))
 (some (.inl (addI s_1 1))))
 (some (.inr (.inr ())))) 0).bind fun r_18 =>
 Sum.elim (fun r_18 =>
 some r_18)
 (fun _r_18 =>
 some (-1)) r_18

def zbm (s:(List Int)) (f_:(Int→Option (Bool))):Option (Bool) :=
 (zem s f_).bind fun y_1 =>
 some (leI 0 y_1)

def zbq (n_:Int) (c0:THeap):Option (Bool) :=
 cond (neI n_ (-1))
 ((zbe c0 n_).bind fun y_2 =>
 some (notB y_2))
 (some false)

def zbs (h_:THeap):Option (Bool) :=
 (zdq [h_.vars,h_.next]).bind fun y_1 =>
 (zbm y_1 (fun x0=>zbq x0 h_)).bind fun y_4 =>
 some (notB y_4)

def zff (list:(List Int)) (n_:Int):Option ((List Int)) :=
 (iter (ρ:=(List Int)) (fun s_1:(List Int) × Int =>
 cond (ltI s_1.2 (list.length:Int))
 ((at? list s_1.2).bind fun e_9 =>
 cond (eqI e_9 n_)
 ((room (s_1.1.length + [s_1.2].length) 8).bind fun _ =>
 some (.inl (s_1.1 ++ [s_1.2],addI s_1.2 1)))
 (some (.inl (s_1.1,addI s_1.2 1))))
 (some (.inr s_1.1))) ([],0)).bind fun r_17 =>
 some r_17

def zdy (b_:Bool):Option (Int) :=
 cond b_
 (some 2)
 (some 0)

def zdg (s:(List Int)) (v:Int):Option (Int) :=
 (iter (ρ:=(Int) ⊕ (Unit)) (fun s_1:Int =>
 cond (ltI s_1 (s.length:Int))
 ((at? s s_1).bind fun e_9 =>
 cond (eqI v e_9)
 (some (.inr (.inl s_1)))
 (some (.inl (addI s_1 1))))
 (some (.inr (.inr ())))) 0).bind fun r_15 =>
 Sum.elim (fun r_15 =>
 some r_15)
 (fun _r_15 =>
 some (-1)) r_15

def zaj (s:(List Int)) (v:Int):Option (Bool) :=
 (zdg s v).bind fun y_1 =>
 some (leI 0 y_1)

def zdb (h_:THeap) (cell:Int):Option ((List Int)) :=
 (iter (ρ:=((List Int)) ⊕ (Unit)) (fun s_1:(List Int) × Int =>
 cond (neI s_1.2 (-1))
 ((zbe h_ s_1.2).bind fun y_9 =>
 cond y_9
 ((zaj s_1.1 s_1.2).bind fun y_13 =>
 cond y_13
 (some (.inr (.inl s_1.1)))
 ((room (s_1.1.length + [s_1.2].length) 8).bind fun _ =>
 (at? h_.next s_1.2).bind fun e_19 =>
 some (.inl (s_1.1 ++ [s_1.2],e_19))))
 (some (.inr (.inr ()))))
 (cond (eqI cell (-1))
 ((zbe h_ s_1.2).bind fun y_25 =>
 cond y_25
 ((zaj s_1.1 s_1.2).bind fun y_29 =>
 cond y_29
 (some (.inr (.inl s_1.1)))
 ((room (s_1.1.length + [s_1.2].length) 8).bind fun _ =>
 (at? h_.next s_1.2).bind fun e_35 =>
 some (.inl (s_1.1 ++ [s_1.2],e_35))))
 (some (.inr (.inr ()))))
 (some (.inr (.inl s_1.1))))) ([],cell)).bind fun r_40 =>
 Sum.elim (fun r_40 =>
 some r_40)
 (fun _r_40 =>
 some []) r_40

def zdh (h_:THeap):Option (TStructure) :=
 (zbs h_).bind fun y_1 =>
 cond y_1
 (cond (ltI 10 (h_.next.length:Int))
 (some (⟨[],[]⟩:TStructure))
 ((zcs (h_.vars.length:Int) 1 4).bind fun y_6 =>
 cond y_6
 ((iter (ρ:=(List TNode) × (List Int)) (fun s_10:Int × (List TNode) × (List Int) =>
 cond (ltI s_10.1 (h_.next.length:Int))
 ((zff h_.next s_10.1).bind fun y_18 =>
 (zdy (ltI 1 (y_18.length:Int))).bind fun y_21 =>
 (iter (ρ:=(List Int) × (List Int)) (fun s_25:Int × (List Int) × (List Int) =>
 cond (ltI s_25.1 (h_.vars.length:Int))
 ((at? h_.vars s_25.1).bind fun e_33 =>
 (zdy (eqI e_33 s_10.1)).bind fun y_38 =>
 (room (s_25.2.1.length + [y_38].length) 8).bind fun _ =>
 (zdb h_ e_33).bind fun y_43 =>
 (zaj y_43 s_10.1).bind fun y_46 =>
 (zdy y_46).bind fun y_49 =>
 (room (s_25.2.2.length + [y_49].length) 8).bind fun _ =>
 some (.inl (addI s_25.1 1,s_25.2.1 ++ [y_38],s_25.2.2 ++ [y_49])))
 (some (.inr (s_25.2.1,s_25.2.2)))) (0,[],[])).bind fun r_54 =>
 (room (s_10.2.1.length + [(⟨r_54.1,r_54.2,y_21,0⟩:TNode)].length) 64).bind fun _ =>
 (iter (ρ:=(List Int)) (fun s_61:Int × (List Int) =>
 cond (ltI s_61.1 (h_.next.length:Int))
 ((at? h_.next s_10.1).bind fun e_69 =>
 (zdy (eqI e_69 s_61.1)).bind fun y_74 =>
 (room (s_61.2.length + [y_74].length) 8).bind fun _ =>
 some (.inl (addI s_61.1 1,s_61.2 ++ [y_74])))
 (some (.inr s_61.2))) (0,s_10.2.2)).bind fun r_79 =>
 some (.inl (addI s_10.1 1,s_10.2.1 ++ [(⟨r_54.1,r_54.2,y_21,0⟩:TNode)],r_79)))
 (some (.inr (s_10.2.1,s_10.2.2)))) (0,[],[])).bind fun r_84 =>
 some (⟨r_84.1,r_84.2⟩:TStructure))
 (some (⟨[],[]⟩:TStructure))))
 (some (⟨[],[]⟩:TStructure))

def zga (t:TStructure) (to_:(List Int)):Option (Bool) :=
 (iter (ρ:=(Unit) ⊕ (Unit)) (fun s_1:Int =>
 cond (ltI s_1 (t.nodes.length:Int))
 ((zaj to_ s_1).bind fun y_9 =>
 cond y_9
 (some (.inl (addI s_1 1)))
 (some (.inr (.inl ()))))
 (some (.inr (.inr ())))) 0).bind fun r_13 =>
 Sum.elim (fun _r_13 =>
 some false)
 (fun _r_13 =>
 some true) r_13

def zaw (s:TStructure) (i:Int):Option (Bool) :=
 (zcs i 0 (subI (s.nodes.length:Int) 1)).bind fun y_1 =>
 some y_1

def zes (a_:Int):Option (Bool) :=
 (zcs a_ 0 2).bind fun y_1 =>
 some y_1

def zat (a_:Int) (b_:Int):Option (Bool) :=
 (zes a_).bind fun y_1 =>
 cond y_1
 ((zes b_).bind fun y_5 =>
 cond y_5
 (cond (eqI b_ 1)
 (some true)
 (some (eqI a_ b_)))
 (some false))
 (some false)

def zay (s1:(List Int)) (s2:(List Int)) (eq:(Int→Int→Option (Bool))):Option (Bool) :=
 cond (neI (s1.length:Int) (s2.length:Int))
 (some false)
 ((iter (ρ:=(Unit) ⊕ (Unit)) (fun s_2:Int =>
 cond (ltI s_2 (s1.length:Int))
 ((at? s1 s_2).bind fun e_11 =>
 (at? s2 s_2).bind fun e_16 =>
 (eq e_11 e_16).bind fun y_21 =>
 cond y_21
 (some (.inl (addI s_2 1)))
 (some (.inr (.inl ()))))
 (some (.inr (.inr ())))) 0).bind fun r_24 =>
 Sum.elim (fun _r_24 =>
 some false)
 (fun _r_24 =>
 some true) r_24)

def zct (x_:TNode) (y_:TNode):Option (Bool) :=
 (zay x_.vars y_.vars (fun x0 x1=>zat x0 x1)).bind fun y_1 =>
 cond y_1
 ((zay x_.reach y_.reach (fun x0 x1=>zat x0 x1)).bind fun y_4 =>
 cond y_4
 ((zat x_.shared y_.shared).bind fun y_7 =>
 cond y_7
 ((zat x_.many y_.many).bind fun y_11 =>
 some y_11)
 (some false))
 (some false))
 (some false)

def zbg (s:TStructure) (i:Int) (j:Int):Option (Int) :=
 (zaw s i).bind fun y_1 =>
 cond y_1
 ((zaw s j).bind fun y_5 =>
 cond y_5
 (cond (neI (s.next.length:Int) (mulI (s.nodes.length:Int) (s.nodes.length:Int)))
 (some 1)
 ((at? s.next (addI (mulI i (s.nodes.length:Int)) j)).bind fun e_10 =>
 some e_10))
 (some 1))
 (some 1)

def zeh (s:TStructure) (t:TStructure) (to_:(List Int)):Option (Bool) :=
 (at? to_ (subI (to_.length:Int) 1)).bind fun e_1 =>
 (zaw t e_1).bind fun y_6 =>
 cond y_6
 ((at? s.nodes (subI (to_.length:Int) 1)).bind fun e_10 =>
 (at? to_ (subI (to_.length:Int) 1)).bind fun _ =>
 (at? t.nodes e_1).bind fun e_20 =>
 (zct e_10 e_20).bind fun y_25 =>
 cond y_25
 ((iter (ρ:=(Unit) ⊕ (Unit)) (fun s_29:Int =>
 cond (ltI s_29 (to_.length:Int))
 ((at? to_ s_29).bind fun e_37 =>
 cond (ltI s_29 (subI (to_.length:Int) 1))
 ((at? to_ (subI (to_.length:Int) 1)).bind fun _ =>
 cond (eqI e_37 e_1)
 ((at? t.nodes e_37).bind fun e_49 =>
 cond (neI e_49.many 1)
 (some (.inr (.inl ())))
 ((zbg s (subI (to_.length:Int) 1) s_29).bind fun y_55 =>
 (at? to_ (subI (to_.length:Int) 1)).bind fun _ =>
 (zbg t e_1 e_37).bind fun y_63 =>
 (zat y_55 y_63).bind fun y_66 =>
 cond y_66
 ((zbg s s_29 (subI (to_.length:Int) 1)).bind fun y_70 =>
 (at? to_ (subI (to_.length:Int) 1)).bind fun _ =>
 (zbg t e_37 e_1).bind fun y_78 =>
 (zat y_70 y_78).bind fun y_81 =>
 cond y_81
 (some (.inl (addI s_29 1)))
 (some (.inr (.inl ()))))
 (some (.inr (.inl ())))))
 ((zbg s (subI (to_.length:Int) 1) s_29).bind fun y_85 =>
 (at? to_ (subI (to_.length:Int) 1)).bind fun _ =>
 (zbg t e_1 e_37).bind fun y_93 =>
 (zat y_85 y_93).bind fun y_96 =>
 cond y_96
 ((zbg s s_29 (subI (to_.length:Int) 1)).bind fun y_100 =>
 (at? to_ (subI (to_.length:Int) 1)).bind fun _ =>
 (zbg t e_37 e_1).bind fun y_108 =>
 (zat y_100 y_108).bind fun y_111 =>
 cond y_111
 (some (.inl (addI s_29 1)))
 (some (.inr (.inl ()))))
 (some (.inr (.inl ())))))
 ((zbg s (subI (to_.length:Int) 1) s_29).bind fun y_115 =>
 (at? to_ (subI (to_.length:Int) 1)).bind fun _ =>
 (zbg t e_1 e_37).bind fun y_123 =>
 (zat y_115 y_123).bind fun y_126 =>
 cond y_126
 ((zbg s s_29 (subI (to_.length:Int) 1)).bind fun y_130 =>
 (at? to_ (subI (to_.length:Int) 1)).bind fun _ =>
 (zbg t e_37 e_1).bind fun y_138 =>
 (zat y_130 y_138).bind fun y_141 =>
 cond y_141
 (some (.inl (addI s_29 1)))
 (some (.inr (.inl ()))))
 (some (.inr (.inl ())))))
 (some (.inr (.inr ())))) 0).bind fun r_145 =>
 Sum.elim (fun _r_145 =>
 some false)
 (fun _r_145 =>
 some true) r_145)
 (some false))
 (some false)

def zaz (self:(List Int)→TStructure→TStructure→Option ((List Int) × Bool)) (to_:(List Int)) (c0:TStructure) (c1:TStructure):Option ((List Int) × Bool) :=
 cond (eqI (to_.length:Int) (c0.nodes.length:Int))
 ((zga c1 to_).bind fun y_2 =>
 some (to_,y_2))
 ((iter (ρ:=((List Int) × Bool) ⊕ (Unit)) (fun s_5:Int =>
 cond (ltI s_5 (c1.nodes.length:Int))
 ((zaq to_).bind fun y_15 =>
 (room (y_15.length + [s_5].length) 8).bind fun _ =>
 (zeh c0 c1 (y_15 ++ [s_5])).bind fun y_20 =>
 cond y_20
 ((self (y_15 ++ [s_5]) c0 c1).bind fun y_24 =>
 cond y_24.2
 (some (.inr (.inl (y_24.1,true))))
 (some (.inl (addI s_5 1))))
 (some (.inl (addI s_5 1))))
 (some (.inr (.inr ())))) 0).bind fun r_28 =>
 Sum.elim (fun r_28 =>
 some (r_28.1,r_28.2))
 (fun _r_28 =>
 some ([],false)) r_28)
def zao:(((List Int) × TStructure × TStructure × Unit)→Option ((List Int) × Bool))→((List Int) × TStructure × TStructure × Unit)→Option ((List Int) × Bool):=fun self x=>zaz (fun to_ c0 c1=>self (to_,c0,c1,())) x.1 x.2.1 x.2.2.1
def zhb (to_:(List Int)) (c0:TStructure) (c1:TStructure):Option ((List Int) × Bool):=fixO zao (to_,c0,c1,())
set_option maxRecDepth 100000 in
theorem zht:∀ f g:((List Int) × TStructure × TStructure × Unit)→Option ((List Int) × Bool),(∀ x,Le (f x) (g x))→∀ x,Le (zao f x) (zao g x):=by
 intro f g h x
 unfold zao zaz
 repeat' (first | with_reducible exact Le.refl _ | with_reducible exact h _ | refine Le.bind ?_ (fun _=>?_) | refine Le.cond ?_ ?_ | refine Le.iter (fun _=>?_) _ | refine Le.elim (fun _=>?_) (fun _=>?_))

def zdz (s:TStructure) (t:TStructure):Option ((List Int) × Bool) :=
 (zhb [] s t).bind fun y_1 =>
 cond y_1.2
 (some (y_1.1,true))
 (some ([],false))

def zdt (s:TStructure) (t:TStructure):Option (Bool) :=
 (zdz s t).bind fun y_1 =>
 some y_1.2

def zcr (s:(List TStructure)) (f_:(TStructure→Option (Bool))):Option (Int) :=
 (iter (ρ:=(Int) ⊕ (Unit)) (fun s_1:Int =>
 cond (ltI s_1 (s.length:Int))
 ((at? s s_1).bind fun e_10 =>
 (f_ e_10).bind fun y_15 =>
 cond y_15
 (some (.inr (.inl s_1)))
 (some (.inl (addI s_1 1))))
 (some (.inr (.inr ())))) 0).bind fun r_18 =>
 Sum.elim (fun r_18 =>
 some r_18)
 (fun _r_18 =>
 some (-1)) r_18

def zbd (s:(List TStructure)) (f_:(TStructure→Option (Bool))):Option (Bool) :=
 (zcr s f_).bind fun y_1 =>
 some (leI 0 y_1)

def zfr (t:TStructure) (c0:TStructure):Option (Bool) :=
 (zdt c0 t).bind fun y_1 =>
 some y_1

def zgn (set:(List TStructure)) (s:TStructure):Option (Bool) :=
 (zbd set (fun x0=>zfr x0 s)).bind fun y_1 =>
 some y_1

def zcu (set:(List TStructure)) (h_:THeap):Option (Bool) :=
 (zdh h_).bind fun y_1 =>
 (zgn set y_1).bind fun y_4 =>
 some y_4

def zfe (many:Int) (bound:Int):Option ((List (List Int))) :=
 (iter (ρ:=(List (List Int))) (fun s_1:(List (List Int)) × Int =>
 cond (ltI s_1.2 many)
 ((iter (ρ:=(List (List Int))) (fun s_9:(List (List Int)) × Int =>
 cond (ltI s_9.2 (s_1.1.length:Int))
 ((at? s_1.1 s_9.2).bind fun e_17 =>
 (iter (ρ:=(List (List Int))) (fun s_22:(List (List Int)) × Int =>
 cond (ltI s_22.2 bound)
 ((zaq e_17).bind fun y_30 =>
 (room (y_30.length + [s_22.2].length) 8).bind fun _ =>
 (room (s_22.1.length + [y_30 ++ [s_22.2]].length) 24).bind fun _ =>
 some (.inl (s_22.1 ++ [y_30 ++ [s_22.2]],addI s_22.2 1)))
 (some (.inr s_22.1))) (s_9.1,(-1))).bind fun r_37 =>
 some (.inl (r_37,addI s_9.2 1)))
 (some (.inr s_9.1))) ([],0)).bind fun r_42 =>
 some (.inl (r_42,addI s_1.2 1)))
 (some (.inr s_1.1))) ([[]],0)).bind fun r_47 =>
 some r_47

def zcj (h_:THeap):Option (Bool) :=
 (iter (ρ:=(Bool) ⊕ (Unit)) (fun s_1:Int =>
 cond (ltI s_1 (h_.next.length:Int))
 ((at? h_.next s_1).bind fun e_9 =>
 (zdb h_ e_9).bind fun y_14 =>
 (zaj y_14 s_1).bind fun y_17 =>
 cond y_17
 (some (.inr (.inl true)))
 (some (.inl (addI s_1 1))))
 (some (.inr (.inr ())))) 0).bind fun r_21 =>
 Sum.elim (fun r_21 =>
 some r_21)
 (fun _r_21 =>
 some false) r_21

def zey (h_:THeap):Option ((List Int)) :=
 (iter (ρ:=(List Int)) (fun s_1:(List Int) × Int =>
 cond (ltI s_1.2 (h_.vars.length:Int))
 ((at? h_.vars s_1.2).bind fun e_9 =>
 (zdb h_ e_9).bind fun y_14 =>
 (iter (ρ:=(List Int)) (fun s_17:Int × (List Int) =>
 cond (ltI s_17.1 (y_14.length:Int))
 ((at? y_14 s_17.1).bind fun e_25 =>
 (zaj s_17.2 e_25).bind fun y_30 =>
 cond y_30
 (some (.inl (addI s_17.1 1,s_17.2)))
 ((room (s_17.2.length + [e_25].length) 8).bind fun _ =>
 some (.inl (addI s_17.1 1,s_17.2 ++ [e_25]))))
 (some (.inr s_17.2))) (0,s_1.1)).bind fun r_36 =>
 some (.inl (r_36,addI s_1.2 1)))
 (some (.inr s_1.1))) ([],0)).bind fun r_41 =>
 some r_41

def zek (vars:Int) (h_:THeap):Option (Bool) :=
 (zcs vars 1 4).bind fun y_1 =>
 cond y_1
 (cond (neI (h_.vars.length:Int) vars)
 (some false)
 (cond (ltI 6 (h_.next.length:Int))
 (some false)
 ((zbs h_).bind fun y_7 =>
 cond y_7
 ((zcj h_).bind fun y_11 =>
 cond y_11
 (some false)
 ((zey h_).bind fun y_15 =>
 (iter (ρ:=(Unit) ⊕ (Unit)) (fun s_18:Int =>
 cond (ltI s_18 (y_15.length:Int))
 ((at? y_15 s_18).bind fun e_26 =>
 cond (neI e_26 s_18)
 (some (.inr (.inl ())))
 (some (.inl (addI s_18 1))))
 (some (.inr (.inr ())))) 0).bind fun r_32 =>
 Sum.elim (fun _r_32 =>
 some false)
 (fun _r_32 =>
 some (eqI (y_15.length:Int) (h_.next.length:Int))) r_32))
 (some false))))
 (some false)

def zda (h_:THeap):Option (THeap) :=
 (zaq h_.vars).bind fun y_1 =>
 (zaq h_.next).bind fun y_4 =>
 some (⟨y_1,y_4⟩:THeap)

def zci (vars:Int) (cells:Int):Option ((List THeap)) :=
 (zcs vars 1 4).bind fun y_1 =>
 cond y_1
 ((zcs cells 0 3).bind fun y_5 =>
 cond y_5
 ((iter (ρ:=(List THeap)) (fun s_9:(List THeap) × Int =>
 cond (ltI s_9.2 (addI cells 1))
 ((zfe vars s_9.2).bind fun y_17 =>
 (iter (ρ:=(List THeap)) (fun s_20:(List THeap) × Int =>
 cond (ltI s_20.2 (y_17.length:Int))
 ((at? y_17 s_20.2).bind fun e_28 =>
 (zfe s_9.2 s_9.2).bind fun y_33 =>
 (iter (ρ:=(List THeap)) (fun s_36:(List THeap) × Int =>
 cond (ltI s_36.2 (y_33.length:Int))
 ((at? y_33 s_36.2).bind fun e_44 =>
 (zek vars (⟨e_28,e_44⟩:THeap)).bind fun y_50 =>
 cond y_50
 ((zda (⟨e_28,e_44⟩:THeap)).bind fun y_54 =>
 (room (s_36.1.length + [y_54].length) 48).bind fun _ =>
 some (.inl (s_36.1 ++ [y_54],addI s_36.2 1)))
 (some (.inl (s_36.1,addI s_36.2 1))))
 (some (.inr s_36.1))) (s_20.1,0)).bind fun r_59 =>
 some (.inl (r_59,addI s_20.2 1)))
 (some (.inr s_20.1))) (s_9.1,0)).bind fun r_64 =>
 some (.inl (r_64,addI s_9.2 1)))
 (some (.inr s_9.1))) ([],0)).bind fun r_69 =>
 some r_69)
 (some []))
 (some [])

def zgt (vars:Int) (cells:Int) (accept:(THeap→Option (Bool))):Option ((List THeap)) :=
 (zci vars cells).bind fun y_1 =>
 (iter (ρ:=(List THeap) × Int) (fun s_4:(List THeap) × Int × Int =>
 cond (ltI s_4.2.1 (y_1.length:Int))
 ((at? y_1 s_4.2.1).bind fun e_15 =>
 (takeI s_4.2.1 s_4.2.2).bind fun _ =>
 (accept e_15).bind fun y_24 =>
 cond y_24
 ((room (s_4.1.length + [e_15].length) 48).bind fun _ =>
 some (.inl (s_4.1 ++ [e_15],addI s_4.2.1 1,s_4.2.2+1)))
 (some (.inl (s_4.1,addI s_4.2.1 1,s_4.2.2+1))))
 (some (.inr (s_4.1,s_4.2.2)))) ([],0,0)).bind fun r_29 =>
 some r_29.1

def zds (h_:THeap) (c0:(List TStructure)):Option (Bool) :=
 (zcu c0 h_).bind fun y_1 =>
 some y_1

def zbn (vars:Int) (set:(List TStructure)) (cells:Int):Option ((List THeap)) :=
 (zgt vars cells (fun x0=>zds x0 set)).bind fun y_1 =>
 some y_1

def zcf (code:(List U8)):Option (Int × TStructure) :=
 (zfd code).bind fun y_1 =>
 (zec y_1).bind fun y_3 =>
 (at? y_3.1 0).bind fun e_5 =>
 some (2,e_5)

def zei (vars:Int) (s:TStructure):Option (THeap × Bool) :=
 (zbn vars [s] 3).bind fun y_1 =>
 cond (eqI (y_1.length:Int) 0)
 (some ((⟨[],[]⟩:THeap),false))
 ((at? y_1 0).bind fun e_5 =>
 (takeI 0 0).bind fun _ =>
 some (e_5,true))

def zel (self:Int→Int→Option ((List (List Int)))) (n_:Int) (most:Int):Option ((List (List Int))) :=
 cond (eqI n_ 0)
 (some [[]])
 ((self (subI n_ 1) most).bind fun y_2 =>
 (iter (ρ:=(List (List Int))) (fun s_4:(List (List Int)) × Int =>
 cond (leI s_4.2 most)
 ((iter (ρ:=(List (List Int))) (fun s_12:(List (List Int)) × Int =>
 cond (ltI s_12.2 (y_2.length:Int))
 ((at? y_2 s_12.2).bind fun e_20 =>
 (room ([s_4.2].length+e_20.length) 8).bind fun _ =>
 (room (s_12.1.length + [[s_4.2] ++ e_20].length) 24).bind fun _ =>
 some (.inl (s_12.1 ++ [[s_4.2] ++ e_20],addI s_12.2 1)))
 (some (.inr s_12.1))) (s_4.1,0)).bind fun r_29 =>
 some (.inl (r_29,addI s_4.2 1)))
 (some (.inr s_4.1))) ([],(-1))).bind fun r_34 =>
 some r_34)
def zcc:((Int × Int × Unit)→Option ((List (List Int))))→(Int × Int × Unit)→Option ((List (List Int))):=fun self x=>zel (fun n_ most=>self (n_,most,())) x.1 x.2.1
def zdk (n_:Int) (most:Int):Option ((List (List Int))):=fixO zcc (n_,most,())
set_option maxRecDepth 100000 in
theorem zkn:∀ f g:(Int × Int × Unit)→Option ((List (List Int))),(∀ x,Le (f x) (g x))→∀ x,Le (zcc f x) (zcc g x):=by
 intro f g h x
 unfold zcc zel
 repeat' (first | with_reducible exact Le.refl _ | with_reducible exact h _ | refine Le.bind ?_ (fun _=>?_) | refine Le.cond ?_ ?_ | refine Le.iter (fun _=>?_) _ | refine Le.elim (fun _=>?_) (fun _=>?_))


def zeb (h_:THeap):Option (Bool) :=
 (iter (ρ:=(Unit) ⊕ (Unit)) (fun s_1:Int =>
 cond (ltI s_1 (h_.next.length:Int))
 ((zcy h_ s_1).bind fun y_9 =>
 cond (eqI (y_9.length:Int) 0)
 (some (.inr (.inl ())))
 ((at? y_9 (subI (y_9.length:Int) 1)).bind fun e_13 =>
 (at? h_.next e_13).bind fun e_18 =>
 cond (neI e_18 (-1))
 (some (.inr (.inl ())))
 (some (.inl (addI s_1 1)))))
 (some (.inr (.inr ())))) 0).bind fun r_24 =>
 Sum.elim (fun _r_24 =>
 some false)
 (fun _r_24 =>
 some true) r_24

def zef (vars:Int) (h_:THeap):Option (Bool) :=
 (zav vars 1 4).bind fun y_1 =>
 cond y_1
 (cond (neI (h_.vars.length:Int) vars)
 (some false)
 (cond (ltI 6 (h_.next.length:Int))
 (some false)
 ((zdv h_).bind fun y_7 =>
 cond y_7
 ((zeb h_).bind fun y_11 =>
 cond y_11
 ((zeo h_).bind fun y_15 =>
 (iter (ρ:=(Unit) ⊕ (Unit)) (fun s_18:Int =>
 cond (ltI s_18 (y_15.length:Int))
 ((at? y_15 s_18).bind fun e_26 =>
 cond (neI e_26 s_18)
 (some (.inr (.inl ())))
 (some (.inl (addI s_18 1))))
 (some (.inr (.inr ())))) 0).bind fun r_32 =>
 Sum.elim (fun _r_32 =>
 some false)
 (fun _r_32 =>
 some (eqI (y_15.length:Int) (h_.next.length:Int))) r_32)
 (some false))
 (some false))))
 (some false)

def zet (h_:THeap):Option (THeap) :=
 (room (([]:List Int).length+h_.vars.length) 8).bind fun _ =>
 (room (([]:List Int).length+h_.next.length) 8).bind fun _ =>
 some h_

def zcd (vars:Int) (cells:Int):Option ((List THeap)) :=
 (zav vars 1 4).bind fun y_1 =>
 cond y_1
 ((zav cells 0 3).bind fun y_5 =>
 cond y_5
 ((iter (ρ:=(List THeap)) (fun s_9:(List THeap) × Int =>
 cond (leI s_9.2 cells)
 ((zdk vars (subI s_9.2 1)).bind fun y_17 =>
 (zdk s_9.2 (subI s_9.2 1)).bind fun y_20 =>
 (iter (ρ:=(List THeap)) (fun s_23:(List THeap) × Int =>
 cond (ltI s_23.2 (y_17.length:Int))
 ((iter (ρ:=(List THeap)) (fun s_31:(List THeap) × Int =>
 cond (ltI s_31.2 (y_20.length:Int))
 ((at? y_17 s_23.2).bind fun e_39 =>
 (at? y_20 s_31.2).bind fun e_44 =>
 (zef vars (⟨e_39,e_44⟩:THeap)).bind fun y_50 =>
 cond y_50
 ((zet (⟨e_39,e_44⟩:THeap)).bind fun y_54 =>
 (room (s_31.1.length + [y_54].length) 48).bind fun _ =>
 some (.inl (s_31.1 ++ [y_54],addI s_31.2 1)))
 (some (.inl (s_31.1,addI s_31.2 1))))
 (some (.inr s_31.1))) (s_23.1,0)).bind fun r_59 =>
 some (.inl (r_59,addI s_23.2 1)))
 (some (.inr s_23.1))) (s_9.1,0)).bind fun r_64 =>
 some (.inl (r_64,addI s_9.2 1)))
 (some (.inr s_9.1))) ([],0)).bind fun r_69 =>
 some r_69)
 (some []))
 (some [])

def zbl (a_:Int) (b_:Int):Option (Bool) :=
 (zbc a_).bind fun y_1 =>
 cond y_1
 ((zbc b_).bind fun y_5 =>
 cond y_5
 (cond (eqI b_ 1)
 (some true)
 (some (eqI a_ b_)))
 (some false))
 (some false)

def zdw (a_:(List Int)) (b_:(List Int)):Option (Bool) :=
 cond (neI (a_.length:Int) (b_.length:Int))
 (some false)
 ((iter (ρ:=(Unit) ⊕ (Unit)) (fun s_2:Int =>
 cond (ltI s_2 (a_.length:Int))
 ((at? a_ s_2).bind fun e_10 =>
 (at? b_ s_2).bind fun e_15 =>
 (zbl e_10 e_15).bind fun y_20 =>
 cond y_20
 (some (.inl (addI s_2 1)))
 (some (.inr (.inl ()))))
 (some (.inr (.inr ())))) 0).bind fun r_24 =>
 Sum.elim (fun _r_24 =>
 some false)
 (fun _r_24 =>
 some true) r_24)

def zfi (x_:TNode) (y_:TNode):Option (Bool) :=
 (zdw x_.vars y_.vars).bind fun y_1 =>
 cond y_1
 ((zdw x_.reach y_.reach).bind fun y_5 =>
 cond y_5
 ((zbl x_.shared y_.shared).bind fun y_9 =>
 cond y_9
 ((zbl x_.many y_.many).bind fun y_13 =>
 some y_13)
 (some false))
 (some false))
 (some false)

def zdx (s:TStructure) (t:TStructure) (to_:(List Int)):Option (Bool) :=
 (at? s.nodes (subI (to_.length:Int) 1)).bind fun e_1 =>
 (at? to_ (subI (to_.length:Int) 1)).bind fun e_6 =>
 (at? t.nodes e_6).bind fun e_11 =>
 (zfi e_1 e_11).bind fun y_16 =>
 cond y_16
 ((iter (ρ:=(Unit) ⊕ (Unit)) (fun s_20:Int =>
 cond (leI s_20 (subI (to_.length:Int) 1))
 ((zbo s (subI (to_.length:Int) 1) s_20).bind fun y_28 =>
 (at? to_ (subI (to_.length:Int) 1)).bind fun _ =>
 (at? to_ s_20).bind fun e_36 =>
 (zbo t e_6 e_36).bind fun y_41 =>
 (zbl y_28 y_41).bind fun y_44 =>
 cond y_44
 ((zbo s s_20 (subI (to_.length:Int) 1)).bind fun y_48 =>
 (at? to_ s_20).bind fun _ =>
 (at? to_ (subI (to_.length:Int) 1)).bind fun _ =>
 (zbo t e_36 e_6).bind fun y_61 =>
 (zbl y_48 y_61).bind fun y_64 =>
 cond y_64
 (cond (ltI s_20 (subI (to_.length:Int) 1))
 ((at? to_ s_20).bind fun _ =>
 (at? to_ (subI (to_.length:Int) 1)).bind fun _ =>
 cond (eqI e_36 e_6)
 ((at? to_ (subI (to_.length:Int) 1)).bind fun _ =>
 (at? t.nodes e_6).bind fun _ =>
 cond (neI e_11.many 1)
 (some (.inr (.inl ())))
 (some (.inl (addI s_20 1))))
 (some (.inl (addI s_20 1))))
 (some (.inl (addI s_20 1))))
 (some (.inr (.inl ()))))
 (some (.inr (.inl ()))))
 (some (.inr (.inr ())))) 0).bind fun r_91 =>
 Sum.elim (fun _r_91 =>
 some false)
 (fun _r_91 =>
 some true) r_91)
 (some false)

def zdf (s:TStructure) (t:TStructure) (to_:(List Int)):Option (Bool) :=
 cond (neI (to_.length:Int) (s.nodes.length:Int))
 (some false)
 ((iter (ρ:=(Unit) ⊕ (Unit)) (fun s_2:Int =>
 cond (ltI s_2 (to_.length:Int))
 ((at? to_ s_2).bind fun e_10 =>
 (zav e_10 0 (subI (t.nodes.length:Int) 1)).bind fun y_15 =>
 cond y_15
 ((slc to_ 0 (addI s_2 1)).bind fun z_19 =>
 (zdx s t z_19).bind fun y_26 =>
 cond y_26
 (some (.inl (addI s_2 1)))
 (some (.inr (.inl ()))))
 (some (.inr (.inl ()))))
 (some (.inr (.inr ())))) 0).bind fun r_30 =>
 Sum.elim (fun _r_30 =>
 some false)
 (fun _r_30 =>
 (iter (ρ:=(Bool) ⊕ (Unit)) (fun s_38:Int =>
 cond (ltI s_38 (t.nodes.length:Int))
 ((zcl to_ s_38).bind fun y_46 =>
 cond y_46
 (some (.inl (addI s_38 1)))
 (some (.inr (.inl false))))
 (some (.inr (.inr ())))) 0).bind fun r_50 =>
 Sum.elim (fun r_50 =>
 some r_50)
 (fun _r_50 =>
 some true) r_50) r_30)

def zdp (self:TStructure→TStructure→(List Int)→Option ((List Int) × Bool)) (s:TStructure) (t:TStructure) (to_:(List Int)):Option ((List Int) × Bool) :=
 cond (eqI (to_.length:Int) (s.nodes.length:Int))
 ((zdf s t to_).bind fun y_2 =>
 some (to_,y_2))
 ((iter (ρ:=((List Int) × Bool) ⊕ (Unit)) (fun s_5:Int =>
 cond (ltI s_5 (t.nodes.length:Int))
 ((room (([]:List Int).length+to_.length) 8).bind fun _ =>
 (room (to_.length + [s_5].length) 8).bind fun _ =>
 (zdx s t (to_ ++ [s_5])).bind fun y_19 =>
 cond y_19
 ((self s t (to_ ++ [s_5])).bind fun y_23 =>
 cond y_23.2
 (some (.inr (.inl (y_23.1,true))))
 (some (.inl (addI s_5 1))))
 (some (.inl (addI s_5 1))))
 (some (.inr (.inr ())))) 0).bind fun r_27 =>
 Sum.elim (fun r_27 =>
 some (r_27.1,r_27.2))
 (fun _r_27 =>
 some ([],false)) r_27)
def zbv:((TStructure × TStructure × (List Int) × Unit)→Option ((List Int) × Bool))→(TStructure × TStructure × (List Int) × Unit)→Option ((List Int) × Bool):=fun self x=>zdp (fun s t to_=>self (s,t,to_,())) x.1 x.2.1 x.2.2.1
def zmc (s:TStructure) (t:TStructure) (to_:(List Int)):Option ((List Int) × Bool):=fixO zbv (s,t,to_,())
set_option maxRecDepth 100000 in
theorem zko:∀ f g:(TStructure × TStructure × (List Int) × Unit)→Option ((List Int) × Bool),(∀ x,Le (f x) (g x))→∀ x,Le (zbv f x) (zbv g x):=by
 intro f g h x
 unfold zbv zdp
 repeat' (first | with_reducible exact Le.refl _ | with_reducible exact h _ | refine Le.bind ?_ (fun _=>?_) | refine Le.cond ?_ ?_ | refine Le.iter (fun _=>?_) _ | refine Le.elim (fun _=>?_) (fun _=>?_))

def zce (s:TStructure) (t:TStructure):Option ((List Int) × Bool) :=
 (zmc s t []).bind fun y_1 =>
 cond y_1.2
 ((room (([]:List Int).length+y_1.1.length) 8).bind fun _ =>
 some (y_1.1,true))
 (some ([],false))

def zdr (s:TStructure) (t:TStructure):Option (Bool) :=
 (zce s t).bind fun y_1 =>
 some y_1.2

def zbu (t:TStructure) (h_:THeap):Option (Bool) :=
 (zco h_).bind fun y_1 =>
 (zdr y_1 t).bind fun y_4 =>
 some y_4

def zbf (set:(List TStructure)) (h_:THeap):Option (Bool) :=
 (iter (ρ:=(Bool) ⊕ (Unit)) (fun s_1:Int =>
 cond (ltI s_1 (set.length:Int))
 ((at? set s_1).bind fun e_9 =>
 (zbu e_9 h_).bind fun y_14 =>
 cond y_14
 (some (.inr (.inl true)))
 (some (.inl (addI s_1 1))))
 (some (.inr (.inr ())))) 0).bind fun r_18 =>
 Sum.elim (fun r_18 =>
 some r_18)
 (fun _r_18 =>
 some false) r_18

def zbk (vars:Int) (set:(List TStructure)) (cells:Int):Option ((List THeap)) :=
 (zcd vars cells).bind fun y_1 =>
 (iter (ρ:=(List THeap) × Int) (fun s_4:(List THeap) × Int × Int =>
 cond (ltI s_4.2.1 (y_1.length:Int))
 ((at? y_1 s_4.2.1).bind fun e_12 =>
 (takeI s_4.2.1 s_4.2.2).bind fun _ =>
 (zbf set e_12).bind fun y_20 =>
 cond y_20
 ((at? y_1 s_4.2.1).bind fun _ =>
 (takeI s_4.2.1 s_4.2.2).bind fun _ =>
 (room (s_4.1.length + [e_12].length) 48).bind fun _ =>
 some (.inl (s_4.1 ++ [e_12],addI s_4.2.1 1,s_4.2.2+1)))
 ((takeI s_4.2.1 s_4.2.2).bind fun _ =>
 some (.inl (s_4.1,addI s_4.2.1 1,s_4.2.2+1))))
 (some (.inr (s_4.1,s_4.2.2)))) ([],0,0)).bind fun r_44 =>
 some r_44.1

def zee (vars:Int) (s:TStructure):Option (THeap × Bool) :=
 (iter (ρ:=(Bool × (List Int) × (List Int)) ⊕ (Unit)) (fun s_1:Int =>
 cond (leI s_1 3)
 ((zbk vars [s] s_1).bind fun y_9 =>
 cond (ltI 0 (y_9.length:Int))
 ((at? y_9 0).bind fun e_14 =>
 (takeI 0 0).bind fun _ =>
 some (.inr (.inl (true,e_14.vars,e_14.next))))
 (some (.inl (addI s_1 1))))
 (some (.inr (.inr ())))) 0).bind fun r_22 =>
 Sum.elim (fun r_22 =>
 some ((⟨r_22.2.1,r_22.2.2⟩:THeap),r_22.1))
 (fun _r_22 =>
 some ((⟨[],[]⟩:THeap),false)) r_22

def zcg (code:(List U8)):Option (Int × TStructure × Int) :=
 (zfd code).bind fun y_1 =>
 (zec y_1).bind fun y_3 =>
 (at? y_3.1 0).bind fun e_5 =>
 (zbr y_3.2 3).bind fun y_10 =>
 some (2,e_5,y_10.1)

def zfg (a_:(List Int)) (b_:(List Int)):Option (Bool) :=
 cond (neI (a_.length:Int) (b_.length:Int))
 (some false)
 ((iter (ρ:=(Unit) ⊕ (Unit)) (fun s_2:Int =>
 cond (ltI s_2 (a_.length:Int))
 ((at? a_ s_2).bind fun e_10 =>
 (at? b_ s_2).bind fun e_15 =>
 cond (neI e_10 e_15)
 (some (.inr (.inl ())))
 (some (.inl (addI s_2 1))))
 (some (.inr (.inr ())))) 0).bind fun r_21 =>
 Sum.elim (fun _r_21 =>
 some false)
 (fun _r_21 =>
 some true) r_21)

def zdn (a_:THeap) (b_:THeap):Option (Bool) :=
 (zfg a_.vars b_.vars).bind fun y_1 =>
 cond y_1
 ((zfg a_.next b_.next).bind fun y_5 =>
 some y_5)
 (some false)

def laws_sameHeaps (a_:(List THeap)) (b_:(List THeap)):Option (Bool) :=
 cond (neI (a_.length:Int) (b_.length:Int))
 (some false)
 ((iter (ρ:=(Unit) ⊕ (Unit)) (fun s_2:Int =>
 cond (ltI s_2 (a_.length:Int))
 ((at? a_ s_2).bind fun e_10 =>
 (at? b_ s_2).bind fun e_15 =>
 (zdn e_10 e_15).bind fun y_20 =>
 cond y_20
 (some (.inl (addI s_2 1)))
 (some (.inr (.inl ()))))
 (some (.inr (.inr ())))) 0).bind fun r_24 =>
 Sum.elim (fun _r_24 =>
 some false)
 (fun _r_24 =>
 some true) r_24)

def zbj (vars:Int) (set:(List TStructure)) (cells:Int):Option (Int) :=
 (zbn vars set cells).bind fun y_1 =>
 some (y_1.length:Int)

def zej (vars:Int) (s:TStructure) (cells:Int):Option (Bool) :=
 (zbj vars [s] cells).bind fun y_1 =>
 some (eqI y_1 1)

def zbw (vars:Int) (set:(List TStructure)) (cells:Int):Option (Int) :=
 (zbk vars set cells).bind fun y_1 =>
 some (y_1.length:Int)

def zcx (vars:Int) (s:TStructure) (cells:Int):Option (Bool) :=
 (zbw vars [s] cells).bind fun y_1 =>
 some (eqI y_1 1)

def laws_FnConcrete (code:(List U8)):Option (Bool) :=
 (laws_big code).bind fun y_1 =>
 cond y_1
 (some true)
 ((zbh code).bind fun y_5 =>
 (zbn y_5.1 y_5.2.1 y_5.2.2).bind fun y_8 =>
 (zcf code).bind fun y_11 =>
 (zei y_11.1 y_11.2).bind fun y_14 =>
 (zee y_11.1 y_11.2).bind fun y_17 =>
 (zcg code).bind fun y_20 =>
 (zbk y_5.1 y_5.2.1 y_5.2.2).bind fun y_23 =>
 (laws_sameHeaps y_8 y_23).bind fun y_26 =>
 cond y_26
 (cond (neB y_14.2 y_17.2)
 (some false)
 ((zdn y_14.1 y_17.1).bind fun y_31 =>
 cond y_31
 ((zej y_20.1 y_20.2.1 y_20.2.2).bind fun y_35 =>
 (zcx y_20.1 y_20.2.1 y_20.2.2).bind fun y_38 =>
 cond (neB y_35 y_38)
 (some false)
 ((zbj y_5.1 y_5.2.1 y_5.2.2).bind fun y_42 =>
 cond (neI y_42 (y_8.length:Int))
 (some false)
 (cond y_14.2
 ((zbu y_11.2 y_14.1).bind fun y_47 =>
 cond y_47
 ((iter (ρ:=(Unit) ⊕ (Unit)) (fun s_51:Int =>
 cond (ltI s_51 (y_8.length:Int))
 ((at? y_8 s_51).bind fun e_59 =>
 (zbf y_5.2.1 e_59).bind fun y_64 =>
 cond y_64
 (some (.inl (addI s_51 1)))
 (some (.inr (.inl ()))))
 (some (.inr (.inr ())))) 0).bind fun r_68 =>
 Sum.elim (fun _r_68 =>
 some false)
 (fun _r_68 =>
 some true) r_68)
 (some false))
 ((iter (ρ:=(Unit) ⊕ (Unit)) (fun s_76:Int =>
 cond (ltI s_76 (y_8.length:Int))
 ((at? y_8 s_76).bind fun e_84 =>
 (zbf y_5.2.1 e_84).bind fun y_89 =>
 cond y_89
 (some (.inl (addI s_76 1)))
 (some (.inr (.inl ()))))
 (some (.inr (.inr ())))) 0).bind fun r_93 =>
 Sum.elim (fun _r_93 =>
 some false)
 (fun _r_93 =>
 some true) r_93))))
 (some false)))
 (some false))

end Go.Ev


namespace Go.Ev
def codeP:List Nat→Nat
 | []=>0
 | x :: r=>2 ^ x * (2 * codeP r+1)
theorem pow_odd:∀ (x y a b:Nat),2 ^ x * (2 * a+1)=2 ^ y * (2 * b+1)→x=y∧a=b
 | 0,0,a,b,h=>⟨rfl,by rw [Nat.pow_zero,Nat.one_mul,Nat.one_mul] at h;omega⟩
 | 0,y+1,a,b,h=>by
  rw [Nat.pow_succ,Nat.mul_right_comm] at h
  generalize 2 ^ y * (2 * b+1)=m at h
  omega
 | x+1,0,a,b,h=>by
  rw [Nat.pow_succ,Nat.mul_right_comm] at h
  generalize 2 ^ x * (2 * a+1)=m at h
  omega
 | x+1,y+1,a,b,h=>by
  rw [Nat.pow_succ,Nat.pow_succ,Nat.mul_right_comm,Nat.mul_right_comm (2 ^ y)] at h
  have:=pow_odd x y a b (by omega)
  exact ⟨by omega,this.2⟩
theorem codeP_inj:∀ {p q:List Nat},codeP p=codeP q→p=q
 | [],[],_=>rfl
 | [],y :: q,h=>by
  rw [codeP,codeP] at h
  have:=Nat.mul_pos (Nat.pow_pos (n:=y) (show 0 < 2 by omega)) (show 0 < 2 * codeP q+1 by omega)
  omega
 | x :: p,[],h=>by
  rw [codeP,codeP] at h
  have:=Nat.mul_pos (Nat.pow_pos (n:=x) (show 0 < 2 by omega)) (show 0 < 2 * codeP p+1 by omega)
  omega
 | x :: p,y :: q,h=>by
  rw [codeP,codeP] at h
  obtain ⟨h1,h2⟩:=pow_odd _ _ _ _ h
  rw [h1,codeP_inj h2]
def pk (p:List Nat):Nat:=bigK+codeP p
theorem pk_inj {p q:List Nat} (h:pk p=pk q):p=q:=codeP_inj (by unfold pk at h;omega)
theorem pk_deep (p:List Nat):(pk p=deepK)=False:=by
 rw [eq_iff_iff,iff_false]
 unfold pk bigK deepK
 omega
theorem ziw {d:Nat} {p q:List Nat} (h:p≠q):((d,pk p):Key)≠(d,pk q):=fun e=>h (pk_inj (Prod.mk.inj e).2)
theorem zmj {p:List Nat} {j:Nat} {q:List Nat}:p≠p ++ j :: q:=fun h=>by
 have:=congrArg List.length h
 simp at this
theorem fork_ne {p q r:List Nat} {i j:Nat} (h:i≠j):p ++ i :: q≠p ++ j :: r:=fun e=>by
 have:=List.append_cancel_left e
 simp only [List.cons.injEq] at this
 exact h this.1

def szD (n:Nat) (cs:List D):Nat:=if n=0 then 1 else cs.length / n
mutual
def wfD:D→Prop
 | .sc _=>True
 | .sl n cs=>(0 < szD n cs∧cs.length=n * szD n cs)∧wfL cs
def wfL:List D→Prop
 | []=>True
 | c :: cs=>wfD c∧wfL cs
end
def bxC (d:Nat) (p:List Nat):D→C
 | .sc v=>.s v
 | .sl n cs=>.bs (d,pk p) n (szD n cs)
def bxL (d:Nat) (p:List Nat):Nat→List D→List C
 | _,[]=>[]
 | i,c :: cs=>bxC d (p ++ [i]) c :: bxL d p (i+1) cs
mutual
def subD (m:Mem) (d:Nat):List Nat→D→Prop
 | _,.sc _=>True
 | p,.sl _ cs=>m (d,pk p)=some (bxL d p 0 cs)∧subL m d p 0 cs
def subL (m:Mem) (d:Nat):List Nat→Nat→List D→Prop
 | _,_,[]=>True
 | p,i,c :: cs=>subD m d (p ++ [i]) c∧subL m d p (i+1) cs
end
mutual
def thawD (d:Nat):Plc→List Nat→D→List Gho
 | _,_,.sc _=>[]
 | pl,p,.sl n cs=>.thaw pl (pk p) (szD n cs) :: thawL d p 0 cs
def thawL (d:Nat):List Nat→Nat→List D→List Gho
 | _,_,[]=>[]
 | p,i,c :: cs=>thawD d (.mem (d,pk p) i) (p ++ [i]) c ++ thawL d p (i+1) cs
end
mutual
def frzD (d:Nat):Plc→List Nat→D→List Gho
 | _,_,.sc _=>[]
 | pl,p,.sl _ cs=>frzL d p 0 cs ++ [.frz pl]
def frzL (d:Nat):List Nat→Nat→List D→List Gho
 | _,_,[]=>[]
 | p,i,c :: cs=>frzD d (.mem (d,pk p) i) (p ++ [i]) c ++ frzL d p (i+1) cs
end
theorem wfL_app:∀ {cs ds:List D},wfL (cs ++ ds) ↔ wfL cs∧wfL ds
 | [],ds=>by simp [wfL]
 | c :: cs,ds=>by rw [List.cons_append,wfL,wfL,wfL_app (cs:=cs),and_assoc]


mutual
theorem zpf {m m':Mem} {d:Nat}:∀ {c:D} {p:List Nat},(∀ q,m' (d,pk (p ++ q))=m (d,pk (p ++ q)))→subD m d p c→subD m' d p c
 | .sc _,_,_,_=>by rw [subD];trivial
 | .sl n cs,p,h,hs=>by
  rw [subD] at hs ⊢
  exact ⟨by have:=h [];rw [List.append_nil] at this;rw [this];exact hs.1,znc (fun j q _ _=>h (j :: q)) hs.2⟩
theorem znc {m m':Mem} {d:Nat}:∀ {cs:List D} {p:List Nat} {i:Nat},(∀ j q,i≤j→j < i+cs.length→m' (d,pk (p ++ j :: q))=m (d,pk (p ++ j :: q)))→subL m d p i cs→subL m' d p i cs
 | [],_,_,_,_=>by rw [subL];trivial
 | c :: cs,p,i,h,hs=>by
  rw [subL] at hs ⊢
  rw [List.length_cons] at h
  exact ⟨zpf (fun q=>by have:=h i q (Nat.le_refl _) (by omega);rwa [show p ++ i :: q=p ++ [i] ++ q by simp] at this) hs.1,znc (fun j q hj hj2=>h j q (by omega) (by omega)) hs.2⟩
end
theorem zle (q1 q2:Key→Bool) (c:C):(c.kill q1).kill q2=c.kill fun k=>q1 k || q2 k:=by
 cases c with
 | ptr k off=>by_cases h1:q1 k=true <;> by_cases h2:q2 k=true <;> simp [C.kill,h1,h2]
 | bs k n sz=>by_cases h1:q1 k=true <;> by_cases h2:q2 k=true <;> simp [C.kill,h1,h2]
 | fn f caps =>
  have:(caps.any fun c=>q1 c.1 || q2 c.1)=(caps.any (fun c=>q1 c.1) || caps.any fun c=>q2 c.1):=by
   induction caps with
   | nil=>rfl
   | cons a r ih=>simp only [List.any_cons,ih];cases q1 a.1 <;> cases q2 a.1 <;> simp
  have e:∀ q:Key→Bool,(C.fn f caps).kill q=if (caps.any fun c=>q c.1)=true then .dead else .fn f caps:=fun q=>rfl
  rw [e q1,e (fun k=>q1 k || q2 k),this]
  cases h1:(caps.any fun c=>q1 c.1) with
  | true=>rfl
  | false=>rw [if_neg (by simp),e q2,Bool.false_or]
 | _=>rfl
theorem zpw (q1 q2:Key→Bool) (a:AV):(a.kill q1).kill q2=a.kill fun k=>q1 k || q2 k:=by
 cases a with
 | one c=>simp only [AV.kill,zle]
 | ag cs=>simp only [AV.kill,List.map_map,Function.comp_def,zle]
 | tu vs=>simp only [AV.kill,List.map_map,Function.comp_def,zle]
theorem ofD_kill (q:Key→Bool) (m:Md) (x:D):(C.ofD m x).kill q=C.ofD m x:=by cases x <;> rfl
theorem ofD_killB (x:D):(C.ofD .own x).killB=C.ofD .own x:=by cases x <;> rfl
theorem bxC_kill {q:Key→Bool} {d:Nat} {p:List Nat} (h:q (d,pk p)=false) (x:D):(bxC d p x).kill q=bxC d p x:=by
 cases x with
 | sc v=>rfl
 | sl n cs=>simp [bxC,C.kill,h]
theorem zrh {q:Key→Bool} {d:Nat} {p:List Nat}:∀ {cs:List D} {i:Nat},(∀ j,i≤j→q (d,pk (p ++ [j]))=false)→(bxL d p i cs).map (C.kill q)=bxL d p i cs
 | [],_,_=>rfl
 | c :: cs,i,h=>by rw [bxL,List.map_cons,bxC_kill (h i (Nat.le_refl _)),zrh fun j hj=>h j (by omega)]
mutual
theorem subD_kill {q:Key→Bool} {m m':Mem} {d:Nat}:∀ {c:D} {p:List Nat},(∀ r,q (d,pk (p ++ r))=false)→(∀ r,m' (d,pk (p ++ r))=(m (d,pk (p ++ r))).map (List.map (C.kill q)))→subD m d p c→subD m' d p c
 | .sc _,_,_,_,_=>by rw [subD];trivial
 | .sl n cs,p,hq,h,hs=>by
  rw [subD] at hs ⊢
  refine ⟨?_,znb (fun j r _=>hq (j :: r)) (fun j r _=>h (j :: r)) hs.2⟩
  have:=h []
  rw [List.append_nil] at this
  rw [this,hs.1,Option.map_some,zrh fun j _=>hq [j]]
theorem znb {q:Key→Bool} {m m':Mem} {d:Nat}:∀ {cs:List D} {p:List Nat} {i:Nat},(∀ j r,i≤j→q (d,pk (p ++ j :: r))=false)→(∀ j r,i≤j→m' (d,pk (p ++ j :: r))=(m (d,pk (p ++ j :: r))).map (List.map (C.kill q)))→subL m d p i cs→subL m' d p i cs
 | [],_,_,_,_,_=>by rw [subL];trivial
 | c :: cs,p,i,hq,h,hs=>by
  rw [subL] at hs ⊢
  exact ⟨subD_kill (fun r=>by have:=hq i r (Nat.le_refl _);rwa [show p ++ i :: r=p ++ [i] ++ r by simp] at this) (fun r=>by have:=h i r (Nat.le_refl _);rwa [show p ++ i :: r=p ++ [i] ++ r by simp] at this) hs.1,
   znb (fun j r hj=>hq j r (by omega)) (fun j r hj=>h j r (by omega)) hs.2⟩
end

structure KB (σ:St):Prop where
 env:∀ t,(σ.env t).killB=σ.env t
 mem:∀ k cs,σ.mem k=some cs→∀ c∈cs,c.killB=c
theorem map_id_of {cs:List C} {f:C→C} (h:∀ c∈cs,f c=c):cs.map f=cs:=by
 have:=List.map_congr_left (f:=f) (g:=id) (l:=cs) h
 rw [this,List.map_id]
theorem KB.eq {σ:St} (h:KB σ):σ.killB=σ:=by
 cases σ with
 | mk env mem =>
  unfold St.killB
  congr 1
  ·exact funext h.env
  ·funext k
   have hm:=h.mem k
   show (mem k).map (List.map C.killB)=mem k
   cases hk:mem k with
   | none=>rfl
   | some cs=>rw [Option.map_some,map_id_of (hm cs hk)]
theorem zlg (d:Nat):∀ (l1 l2:List Gho) (σ:St),ghoLB d (l1 ++ l2) σ=(ghoLB d l1 σ).bind (ghoLB d l2)
 | [],_,_=>rfl
 | x :: l1,l2,σ=>by
  rw [List.cons_append,ghoLB,ghoLB]
  cases ghoB d σ x with
  | none=>rfl
  | some σ1=>simp only [Option.bind_some];exact zlg d l1 l2 σ1
theorem KB.put {σ:St} (h:KB σ) {m:Mem} (hm:∀ k cs,m k=some cs→(σ.mem k=some cs)∨∀ c∈cs,c.killB=c):KB { σ with mem:=m } :=
 ⟨h.env,fun k cs hk=>by
  rcases hm k cs hk with h1 | h1
  ·exact h.mem k cs h1
  ·exact h1⟩
theorem set_mid {α:Type} {pre rest:List α} {a b:α} {i:Nat} (h:pre.length=i):(pre ++ a :: rest).set i b=pre ++ b :: rest:=by
 subst h
 rw [List.set_append_right _ _ (Nat.le_refl _),Nat.sub_self,List.set_cons_zero]
theorem get_mid {α:Type} {pre rest:List α} {a:α} {i:Nat} (h:pre.length=i):(pre ++ a :: rest)[i]?=some a:=by
 subst h
 simp
theorem thaw_one {d i n:Nat} {p:List Nat} {σ:St} {pre rest:List C} {cs:List D} (hK:KB σ) (hi:pre.length=i) (hw:0 < szD n cs∧cs.length=n * szD n cs)
 (hm:σ.mem (d,pk p)=some (pre ++ .l .own n cs :: rest)) (hf:σ.mem (d,pk (p ++ [i]))=none) :
 ∃ σ1,ghoB d σ (.thaw (.mem (d,pk p) i) (pk (p ++ [i])) (szD n cs))=some σ1∧KB σ1∧σ1.env=σ.env∧σ1.mem (d,pk p)=some (pre ++ .bs (d,pk (p ++ [i])) n (szD n cs) :: rest) ∧
  σ1.mem (d,pk (p ++ [i]))=some (cs.map (C.ofD .own))∧∀ k,k≠(d,pk p)→k≠(d,pk (p ++ [i]))→σ1.mem k=σ.mem k:=by
 have hne:((d,pk p):Key)≠(d,pk (p ++ [i])):=ziw zmj
 refine ⟨{ σ with mem:=upd (upd σ.mem (d,pk p) (some (pre ++ .bs (d,pk (p ++ [i])) n (szD n cs) :: rest))) (d,pk (p ++ [i])) (some (cs.map (C.ofD .own))) },?_,?_,rfl,?_,?_,?_⟩
 ·simp only [ghoB,Plc.loc,Option.bind_some,Loc.get,hm,get_mid hi,Loc.own?,hf]
  rw [if_pos (by simp [hw.1,pk_deep];exact hw.2)]
  rw [hK.eq]
  simp only [Loc.set,hm,set_mid hi,Md.elem]
 ·refine hK.put fun k c hk=>?_
  have hk':upd (upd σ.mem (d,pk p) (some (pre ++ .bs (d,pk (p ++ [i])) n (szD n cs) :: rest))) (d,pk (p ++ [i])) (some (cs.map (C.ofD .own))) k=some c:=hk
  unfold upd at hk'
  split at hk'
  ·cases hk'
   refine .inr fun x hx=>?_
   obtain ⟨y,_,rfl⟩:=List.mem_map.1 hx
   exact ofD_killB y
  ·split at hk'
   ·cases hk'
    refine .inr fun x hx=>?_
    rcases List.mem_append.1 hx with hx | hx
    ·exact hK.mem _ _ hm x (List.mem_append.2 (.inl hx))
    ·rcases List.mem_cons.1 hx with rfl | hx
     ·rfl
     ·exact hK.mem _ _ hm x (List.mem_append.2 (.inr (List.mem_cons_of_mem _ hx)))
   ·exact .inl hk'
 ·show upd (upd _ _ _) _ _ _=_
  unfold upd
  rw [if_neg hne,if_pos rfl]
 ·show upd (upd _ _ _) _ _ _=_
  unfold upd
  rw [if_pos rfl]
 ·intro k h1 h2
  show upd (upd _ _ _) _ _ _=_
  unfold upd
  rw [if_neg h2,if_neg h1]
mutual
theorem thawD_ok {d:Nat}:∀ (c:D) (p:List Nat) (i:Nat) (σ:St) (pre rest:List C),KB σ→wfD c→pre.length=i→σ.mem (d,pk p)=some (pre ++ C.ofD .own c :: rest)→(∀ q,σ.mem (d,pk (p ++ i :: q))=none) →
 ∃ σ',ghoLB d (thawD d (.mem (d,pk p) i) (p ++ [i]) c) σ=some σ'∧KB σ'∧σ'.env=σ.env∧σ'.mem (d,pk p)=some (pre ++ bxC d (p ++ [i]) c :: rest)∧subD σ'.mem d (p ++ [i]) c ∧
  ∀ k,k≠(d,pk p)→(∀ q,k≠(d,pk (p ++ i :: q)))→σ'.mem k=σ.mem k
 | .sc v,p,i,σ,pre,rest,hK,_,_,hm,_=>⟨σ,by rw [thawD];rfl,hK,rfl,hm,by rw [subD];trivial,fun _ _ _=>rfl⟩
 | .sl n cs,p,i,σ,pre,rest,hK,hw,hi,hm,hf=>by
  rw [wfD] at hw
  obtain ⟨σ1,h1,hK1,he1,hp1,hc1,ho1⟩:=thaw_one hK hi hw.1 hm (hf [])
  obtain ⟨σ2,h2,hK2,he2,hp2,hs2,ho2⟩:=thawL_ok cs (p ++ [i]) 0 σ1 [] hK1 hw.2 rfl hc1 (fun j q _=>by
   rw [ho1 _ (ziw (by simp)) (ziw (by simp))]
   have:=hf (j :: q)
   simpa using this)
  refine ⟨σ2,by rw [thawD,ghoLB,h1,Option.bind_some,h2],hK2,he2.trans he1,?_,?_,fun k hk1 hk2=>?_⟩
  ·rw [ho2 _ (ziw zmj) (fun j q _=>ziw (by simp)),hp1]
   rfl
  ·rw [subD]
   exact ⟨by rw [hp2];rfl,hs2⟩
  ·rw [ho2 k (by have:=hk2 [];simpa using this) (fun j q _=>by have:=hk2 (j :: q);simpa using this),ho1 k hk1 (by have:=hk2 [];simpa using this)]
theorem thawL_ok {d:Nat}:∀ (cs:List D) (p:List Nat) (i:Nat) (σ:St) (pre:List C),KB σ→wfL cs→pre.length=i→σ.mem (d,pk p)=some (pre ++ cs.map (C.ofD .own))→(∀ j q,i≤j→σ.mem (d,pk (p ++ j :: q))=none) →
 ∃ σ',ghoLB d (thawL d p i cs) σ=some σ'∧KB σ'∧σ'.env=σ.env∧σ'.mem (d,pk p)=some (pre ++ bxL d p i cs)∧subL σ'.mem d p i cs ∧
  ∀ k,k≠(d,pk p)→(∀ j q,i≤j→k≠(d,pk (p ++ j :: q)))→σ'.mem k=σ.mem k
 | [],p,i,σ,pre,hK,_,_,hm,_=>⟨σ,by rw [thawL];rfl,hK,rfl,hm,by rw [subL];trivial,fun _ _ _=>rfl⟩
 | c :: cs,p,i,σ,pre,hK,hw,hi,hm,hf=>by
  rw [wfL] at hw
  obtain ⟨σ1,h1,hK1,he1,hp1,hs1,ho1⟩:=thawD_ok c p i σ pre (cs.map (C.ofD .own)) hK hw.1 hi hm (fun q=>hf i q (Nat.le_refl _))
  obtain ⟨σ2,h2,hK2,he2,hp2,hs2,ho2⟩:=thawL_ok cs p (i+1) σ1 (pre ++ [bxC d (p ++ [i]) c]) hK1 hw.2 (by simp [hi]) (by rw [hp1];simp) (fun j q hj=>by
   rw [ho1 _ (ziw fun e=>zmj e.symm) (fun r=>ziw (fork_ne (by omega)))]
   exact hf j q (by omega))
  refine ⟨σ2,by rw [thawL,zlg,h1,Option.bind_some,h2],hK2,he2.trans he1,?_,?_,fun k hk1 hk2=>?_⟩
  ·rw [hp2,bxL];simp
  ·rw [subL]
   refine ⟨zpf (fun q=>?_) hs1,hs2⟩
   rw [show p ++ [i] ++ q=p ++ i :: q by simp]
   exact ho2 _ (ziw fun e=>zmj e.symm) (fun j r hj=>ziw (fork_ne (by omega)))
  ·rw [ho2 k hk1 (fun j q hj=>hk2 j q (by omega)),ho1 k hk1 (fun q=>hk2 i q (Nat.le_refl _))]
end

theorem mode_own (cs:List D):modeOf (cs.map (C.ofD .own))=some .own:=by
 unfold modeOf
 rw [if_pos]
 rw [List.all_eq_true]
 intro x hx
 obtain ⟨y,_,rfl⟩:=List.mem_map.1 hx
 exact ownD_ofD y
theorem frz_one {d i n:Nat} {p:List Nat} {σ:St} {pre rest:List C} {cs:List D} (hi:pre.length=i) (hw:0 < szD n cs∧cs.length=n * szD n cs)
 (hm:σ.mem (d,pk p)=some (pre ++ .bs (d,pk (p ++ [i])) n (szD n cs) :: rest)) (hc:σ.mem (d,pk (p ++ [i]))=some (cs.map (C.ofD .own))) :
 ∃ σ1,ghoB d σ (.frz (.mem (d,pk p) i))=some σ1∧(∀ t,σ1.env t=(σ.env t).kill (· == (d,pk (p ++ [i])))) ∧
  σ1.mem (d,pk p)=some (pre.map (C.kill (· == (d,pk (p ++ [i])))) ++ .l .own n cs :: rest.map (C.kill (· == (d,pk (p ++ [i])))))∧σ1.mem (d,pk (p ++ [i]))=none ∧
  ∀ k,k≠(d,pk p)→k≠(d,pk (p ++ [i]))→σ1.mem k=(σ.mem k).map (List.map (C.kill (· == (d,pk (p ++ [i]))))):=by
 have hne:((d,pk p):Key)≠(d,pk (p ++ [i])):=ziw zmj
 generalize hkey:((d,pk (p ++ [i])):Key)=key at *
 have hkd:key.1=d:=by rw [← hkey]
 have hmk:(σ.killK key).mem (d,pk p)=some (pre.map (C.kill (· == key)) ++ .dead :: rest.map (C.kill (· == key))):=by
  show memKill (· == key) σ.mem (d,pk p)=_
  unfold memKill
  rw [if_neg (by simpa using hne),hm]
  simp [C.kill]
 refine ⟨{ σ.killK key with mem:=upd (σ.killK key).mem (d,pk p) (some (pre.map (C.kill (· == key)) ++ .l .own n cs :: rest.map (C.kill (· == key)))) },?_,fun t=>rfl,?_,?_,?_⟩
 ·have hlen:(cs.map (C.ofD .own)).length=n * szD n cs:=by rw [List.length_map];exact hw.2
  simp only [ghoB,Plc.loc,Option.bind_some,Loc.get,hm,get_mid hi,hc,List.take_of_length_le (Nat.le_of_eq hlen),mode_own,zqy]
  rw [if_pos ⟨hkd,hlen,hw.1,by simpa [Loc.notK] using hne⟩]
  simp only [Loc.set,hmk]
  rw [set_mid (by simpa using hi)]
 ·show upd _ _ _ _=_
  unfold upd
  rw [if_pos rfl]
 ·show upd _ _ _ _=_
  unfold upd
  rw [if_neg (fun e=>hne e.symm)]
  show memKill (· == key) σ.mem key=_
  unfold memKill
  rw [if_pos (by simp)]
 ·intro k h1 h2
  show upd _ _ _ _=_
  unfold upd
  rw [if_neg h1]
  show memKill (· == key) σ.mem k=_
  unfold memKill
  rw [if_neg (by simpa using h2)]
theorem zhl (q1 q2:Key→Bool) (cs:List C):(cs.map (C.kill q1)).map (C.kill q2)=cs.map (C.kill fun k=>q1 k || q2 k):=by
 rw [List.map_map];exact List.map_congr_left fun x _=>zle q1 q2 x
mutual
theorem frzD_ok {d:Nat}:∀ (c:D) (p:List Nat) (i:Nat) (σ:St) (pre rest:List C),wfD c→pre.length=i→σ.mem (d,pk p)=some (pre ++ bxC d (p ++ [i]) c :: rest)→subD σ.mem d (p ++ [i]) c →
 ∃ (σ':St) (q:Key→Bool),ghoLB d (frzD d (.mem (d,pk p) i) (p ++ [i]) c) σ=some σ'∧(∀ k,q k=true→∃ r,k=(d,pk (p ++ i :: r)))∧(∀ t,σ'.env t=(σ.env t).kill q) ∧
  σ'.mem (d,pk p)=some (pre.map (C.kill q) ++ C.ofD .own c :: rest.map (C.kill q))∧(∀ k,q k=true→σ'.mem k=none) ∧
  ∀ k,k≠(d,pk p)→q k=false→σ'.mem k=(σ.mem k).map (List.map (C.kill q))
 | .sc v,p,i,σ,pre,rest,_,hi,hm,_=>⟨σ,fun _=>false,by rw [frzD];rfl,fun k h=>absurd h (by simp),fun t=>by rw [AV.kill_none],by rw [zcz,zcz];exact hm,fun k h=>absurd h (by simp),fun k _ _=>by
  cases hk:σ.mem k with
  | none=>rfl
  | some cs=>rw [Option.map_some,zcz]⟩
 | .sl n cs,p,i,σ,pre,rest,hw,hi,hm,hs=>by
  rw [wfD] at hw
  rw [subD] at hs
  obtain ⟨σ1,q1,h1,hq1,he1,hp1,hn1,ho1⟩:=frzL_ok cs (p ++ [i]) 0 σ [] hw.2 rfl (by rw [hs.1];rfl) hs.2
  have hq0:q1 (d,pk p)=false:=by
   cases hq:q1 (d,pk p) with
   | false=>rfl
   | true=>obtain ⟨j,r,_,e⟩:=hq1 _ hq;exact absurd (pk_inj (Prod.mk.inj e).2) (by simp)
  have hq2:q1 (d,pk (p ++ [i]))=false:=by
   cases hq:q1 (d,pk (p ++ [i])) with
   | false=>rfl
   | true=>obtain ⟨j,r,_,e⟩:=hq1 _ hq;exact absurd (pk_inj (Prod.mk.inj e).2) (by simp)
  have hm1:σ1.mem (d,pk p)=some (pre.map (C.kill q1) ++ .bs (d,pk (p ++ [i])) n (szD n cs) :: rest.map (C.kill q1)):=by
   rw [ho1 _ (ziw zmj) hq0,hm,Option.map_some,List.map_append,List.map_cons,bxC_kill hq2]
   rfl
  obtain ⟨σ2,h2,he2,hp2,hn2,ho2⟩:=frz_one (d:=d) (i:=i) (n:=n) (p:=p) (by simpa using hi) hw.1 hm1 (by simpa using hp1)
  refine ⟨σ2,fun k=>q1 k || k == (d,pk (p ++ [i])),by rw [frzD,zlg,h1,Option.bind_some,ghoLB,h2];rfl,fun k hk=>?_,fun t=>?_,?_,fun k hk=>?_,fun k hk1 hk2=>?_⟩
  ·simp only [Bool.or_eq_true,beq_iff_eq] at hk
   rcases hk with hk | hk
   ·obtain ⟨j,r,_,e⟩:=hq1 k hk
    exact ⟨j :: r,by rw [e];simp⟩
   ·exact ⟨[],hk⟩
  ·rw [he2,he1,zpw]
  ·rw [hp2,zhl,zhl]
   rfl
  ·simp only [Bool.or_eq_true,beq_iff_eq] at hk
   by_cases hk3:k=(d,pk (p ++ [i]))
   ·rw [hk3];exact hn2
   ·have hk4:=hk.resolve_right hk3
    rw [ho2 k (fun e=>by rw [e] at hk4;rw [hq0] at hk4;cases hk4) hk3,hn1 k hk4];rfl
  ·simp only [Bool.or_eq_false_iff,beq_eq_false_iff_ne] at hk2
   rw [ho2 k hk1 hk2.2,ho1 k hk2.2 hk2.1]
   cases σ.mem k with
   | none=>rfl
   | some c=>simp only [Option.map_some,zhl]
theorem frzL_ok {d:Nat}:∀ (cs:List D) (p:List Nat) (i:Nat) (σ:St) (pre:List C),wfL cs→pre.length=i→σ.mem (d,pk p)=some (pre ++ bxL d p i cs)→subL σ.mem d p i cs →
 ∃ (σ':St) (q:Key→Bool),ghoLB d (frzL d p i cs) σ=some σ'∧(∀ k,q k=true→∃ j r,i≤j∧k=(d,pk (p ++ j :: r)))∧(∀ t,σ'.env t=(σ.env t).kill q) ∧
  σ'.mem (d,pk p)=some (pre.map (C.kill q) ++ cs.map (C.ofD .own))∧(∀ k,q k=true→σ'.mem k=none) ∧
  ∀ k,k≠(d,pk p)→q k=false→σ'.mem k=(σ.mem k).map (List.map (C.kill q))
 | [],p,i,σ,pre,_,hi,hm,_=>⟨σ,fun _=>false,by rw [frzL];rfl,fun k h=>absurd h (by simp),fun t=>by rw [AV.kill_none],by rw [zcz];exact hm,fun k h=>absurd h (by simp),fun k _ _=>by
  cases hk:σ.mem k with
  | none=>rfl
  | some cs=>rw [Option.map_some,zcz]⟩
 | c :: cs,p,i,σ,pre,hw,hi,hm,hs=>by
  rw [wfL] at hw
  rw [subL] at hs
  obtain ⟨σ1,q1,h1,hq1,he1,hp1,hn1,ho1⟩:=frzD_ok c p i σ pre (bxL d p (i+1) cs) hw.1 hi hm hs.1
  have hqt:∀ j r,i+1≤j→q1 (d,pk (p ++ j :: r))=false:=fun j r hj=>by
   cases hq:q1 (d,pk (p ++ j :: r)) with
   | false=>rfl
   | true=>obtain ⟨r',e⟩:=hq1 _ hq;exact absurd (pk_inj (Prod.mk.inj e).2) (fork_ne (by omega))
  have hq0:q1 (d,pk p)=false:=by
   cases hq:q1 (d,pk p) with
   | false=>rfl
   | true=>obtain ⟨r,e⟩:=hq1 _ hq;exact absurd (pk_inj (Prod.mk.inj e).2) zmj
  obtain ⟨σ2,q2,h2,hq2,he2,hp2,hn2,ho2⟩:=frzL_ok cs p (i+1) σ1 (pre.map (C.kill q1) ++ [C.ofD .own c]) hw.2 (by simp [hi])
   (by rw [hp1,zrh fun j hj=>hqt j [] hj];simp)
   (znb (fun j r hj=>hqt j r hj) (fun j r hj=>ho1 _ (ziw fun e=>zmj e.symm) (hqt j r hj)) hs.2)
  refine ⟨σ2,fun k=>q1 k || q2 k,by rw [frzL,zlg,h1,Option.bind_some,h2],fun k hk=>?_,fun t=>?_,?_,fun k hk=>?_,fun k hk1 hk2=>?_⟩
  ·simp only [Bool.or_eq_true] at hk
   rcases hk with hk | hk
   ·obtain ⟨r,e⟩:=hq1 k hk;exact ⟨i,r,Nat.le_refl _,e⟩
   ·obtain ⟨j,r,hj,e⟩:=hq2 k hk;exact ⟨j,r,by omega,e⟩
  ·rw [he2,he1,zpw]
  ·rw [hp2,List.map_append,zhl,List.map_cons,List.map_nil,ofD_kill];simp
  ·simp only [Bool.or_eq_true] at hk
   cases hk2:q2 k with
   | true=>exact hn2 k hk2
   | false =>
    have hk1:=hk.resolve_right (by simp [hk2])
    rw [ho2 k (fun e=>by rw [e] at hk1;rw [hq0] at hk1;cases hk1) hk2,hn1 k hk1];rfl
  ·simp only [Bool.or_eq_false_iff] at hk2
   rw [ho2 k hk1 hk2.2,ho1 k hk1 hk2.1]
   cases σ.mem k with
   | none=>rfl
   | some c=>simp only [Option.map_some,zhl]
end
end Go.Ev


namespace Go.Ev
def cellsOf:AV→List C
 | .one c=>[c]
 | .ag cs=>cs
 | .tu _=>[]
end Go.Ev


namespace Go.Ev
mutual
theorem subD_uniq {m:Mem} {d:Nat}:∀ {c c':D} {p:List Nat},bxC d p c=bxC d p c'→subD m d p c→subD m d p c'→c=c'
 | .sc v,.sc v',p,h,_,_=>by simp only [bxC,C.s.injEq] at h;rw [h]
 | .sc v,.sl n cs,p,h,_,_=>by simp [bxC] at h
 | .sl n cs,.sc v,p,h,_,_=>by simp [bxC] at h
 | .sl n cs,.sl n' cs',p,h,h1,h2=>by
  rw [subD] at h1 h2
  simp only [bxC,C.bs.injEq] at h
  have he:bxL d p 0 cs=bxL d p 0 cs':=Option.some.inj (h1.1.symm.trans h2.1)
  rw [subL_uniq he h1.2 h2.2,h.2.1]
theorem subL_uniq {m:Mem} {d:Nat}:∀ {cs cs':List D} {p:List Nat} {i:Nat},bxL d p i cs=bxL d p i cs'→subL m d p i cs→subL m d p i cs'→cs=cs'
 | [],[],_,_,_,_,_=>rfl
 | [],_ :: _,_,_,h,_,_=>by simp [bxL] at h
 | _ :: _,[],_,_,h,_,_=>by simp [bxL] at h
 | c :: cs,c' :: cs',p,i,h,h1,h2=>by
  rw [bxL,bxL,List.cons.injEq] at h
  rw [subL] at h1 h2
  rw [subD_uniq h.1 h1.1 h2.1,subL_uniq h.2 h1.2 h2.2]
end
structure MemR (mem0 mem:Mem) (d:Nat) (p:List Nat) (i n:Nat):Prop where
 clo:∀ q:Key→Bool,(∀ key:Key,key.1=d→q key=false)→memKill q mem0=mem0→memKill q mem=mem
 far:∀ key,(∀ j r,i≤j→j < i+n→key≠(d,pk (p ++ j :: r)))→mem key=mem0 key
end Go.Ev


namespace Go.Ev
open Enc (enc)
theorem szD_encL {α:Type} [Enc α] {xs:List α} (h:xs≠[]):szD xs.length (encL xs)=Enc.sz α:=by
 unfold szD
 have:0 < xs.length:=List.length_pos_iff.2 h
 rw [if_neg (by omega),zgb,Nat.mul_div_cancel_left _ this]
class WfE (α:Type) [Enc α]:Prop where
 wfE:∀ x:α,wfL (enc x)
instance:WfE Int:=⟨fun x=>by rw [enc_int];simp [wfL,wfD]⟩
instance:WfE Bool:=⟨fun x=>by rw [enc_bool];simp [wfL,wfD]⟩
instance:WfE ByteArray:=⟨fun x=>by rw [enc_str];simp [wfL,wfD]⟩
theorem wf_encL {α:Type} [Enc α] [WfE α]:∀ xs:List α,wfL (encL xs)
 | []=>by rw [encL_nil,wfL];trivial
 | x :: xs=>by rw [zdi,wfL_app];exact ⟨WfE.wfE x,wf_encL xs⟩
instance {α:Type} [Enc α] [WfE α]:WfE (List α):=⟨fun xs=>by
 rw [enc_list,wfL,wfL,wfD]
 refine ⟨⟨?_,wf_encL xs⟩,trivial⟩
 by_cases h:xs=[]
 ·subst h;simp [szD]
 ·rw [szD_encL h];exact ⟨Enc.pos,by rw [zgb]⟩⟩
structure MemU (mem0 mem:Mem) (d:Nat) (r:List Nat):Prop where
 clo:∀ q:Key→Bool,(∀ key:Key,key.1=d→q key=false)→memKill q mem0=mem0→memKill q mem=mem
 far:∀ key,(∀ s,key≠(d,pk (r ++ s)))→mem key=mem0 key
theorem MemU.refl (mem:Mem) (d:Nat) (r:List Nat):MemU mem mem d r:=⟨fun _ _ h=>h,fun _ _=>rfl⟩
theorem MemU.trans {m0 m1 m2:Mem} {d:Nat} {r:List Nat} (h1:MemU m0 m1 d r) (h2:MemU m1 m2 d r):MemU m0 m2 d r :=
 ⟨fun q hq h=>h2.clo q hq (h1.clo q hq h),fun key hk=>(h2.far key hk).trans (h1.far key hk)⟩
theorem MemU.tight {m0 m:Mem} {d D:Nat} {r:List Nat} (h:MemU m0 m d r) (hd:d≤D) (hT:Tight D m0):Tight D m :=
 h.clo _ (fun key hk=>by simp;omega) hT
theorem MemR.up {m0 m:Mem} {d:Nat} {r:List Nat} {i n:Nat} (h:MemR m0 m d r i n):MemU m0 m d r :=
 ⟨h.clo,fun key hk=>h.far key fun j s _ _=>hk (j :: s)⟩
theorem MemR.trans {m0 m1 m2:Mem} {d:Nat} {p:List Nat} {i n:Nat} (h1:MemR m0 m1 d p i n) (h2:MemR m1 m2 d p i n):MemR m0 m2 d p i n :=
 ⟨fun q hq h=>h2.clo q hq (h1.clo q hq h),fun key hk=>(h2.far key hk).trans (h1.far key hk)⟩
theorem MemR.refl (m:Mem) (d:Nat) (p:List Nat) (i n:Nat):MemR m m d p i n:=⟨fun _ _ h=>h,fun _ _=>rfl⟩
theorem MemR.tight {m0 m:Mem} {d D:Nat} {p:List Nat} {i n:Nat} (h:MemR m0 m d p i n) (hd:d≤D) (hT:Tight D m0):Tight D m :=
 h.clo _ (fun key hk=>by simp;omega) hT
end Go.Ev


namespace Go.Ev
end Go.Ev




namespace Go.Ev
open Wf (wf)
open Sm (sm lg)
instance:Wf TNode:=⟨fun x=>wf x.vars∧wf x.reach∧wf x.shared∧wf x.many⟩
instance:Sm TNode:=⟨fun x=>sm x.vars∧sm x.reach,fun x=>lg x.vars∧lg x.reach,fun x h=>⟨Sm.le _ h.1,Sm.le _ h.2⟩⟩
instance:DecidableEq TNode:=fun a b=>by
 cases a;cases b
 simp only [TNode.mk.injEq]
 infer_instance
instance:Wf TStructure:=⟨fun x=>wf x.nodes∧wf x.next⟩
instance:Sm TStructure:=⟨fun x=>sm x.nodes∧sm x.next,fun x=>lg x.nodes∧lg x.next,fun x h=>⟨Sm.le _ h.1,Sm.le _ h.2⟩⟩
instance:DecidableEq TStructure:=fun a b=>by
 cases a;cases b
 simp only [TStructure.mk.injEq]
 infer_instance
instance:Wf THeap:=⟨fun x=>wf x.vars∧wf x.next⟩
instance:Sm THeap:=⟨fun x=>sm x.vars∧sm x.next,fun x=>lg x.vars∧lg x.next,fun x h=>⟨Sm.le _ h.1,Sm.le _ h.2⟩⟩
instance:DecidableEq THeap:=fun a b=>by
 cases a;cases b
 simp only [THeap.mk.injEq]
 infer_instance
end Go.Ev


namespace Go.Ev
open Wf (wf)
open Sm (sm lg)
end Go.Ev

