import Derived.Test.YtmmliafoddlgfaaGreatEvA6
import Derived.Below
import Derived.Laws.AppendOwn
import Derived.Laws.OwnMore
import Derived.Sort.Row
import Derived.IntWalk
set_option linter.unusedSimpArgs false
set_option linter.unusedVariables false
set_option linter.unnecessarySimpa false
noncomputable section
namespace Go.Ev
def chr? (s:ByteArray) (i:Int):Option Int:=if 0≤i then (s[i.toNat]?).map fun b=>(b.toNat:Int) else none
def idxAV (P:Program) (t:TypeId) (X Y:AV):Option Value :=
 if (sclr X).isSome && (sclr Y).isSome then
  match pureOf P (Instr.index t ((sclr X).getD undef) ((sclr Y).getD undef)) with
  | some v=>if scal v then some v else none
  | none=>none
 else none
theorem opE_index (g:Cfg) (d f:Nat) (σ:St) (dst:Option Nat) (pos:String) (after:Array Edge) (ty:TypeId) (guard:Option (Nat × Bool)) (t:Nat) (x y:Operand) :
 opE g d f { dst,op:=.index t x y,type:=ty,pos,after,guard } σ=(idxAV g.P t (opnd σ.env x) (opnd σ.env y)).map fun v=>(.one (.s v),σ):=by
 have:scalarOp g.P σ.env { dst,op:=.index t x y,type:=ty,pos,after,guard }=idxAV g.P t (opnd σ.env x) (opnd σ.env y):=by
  unfold scalarOp idxAV
  have h1:(Op.index t x y).operands.all (fun x=>(sclr (opnd σ.env x)).isSome)=((sclr (opnd σ.env x)).isSome && (sclr (opnd σ.env y)).isSome):=by
   simp [Op.operands]
  simp only [h1]
  split
  ·simp only [execOp,pureOf_bind]
   cases h2:pureOf g.P (Instr.index t ((sclr (opnd σ.env x)).getD undef) ((sclr (opnd σ.env y)).getD undef)) with
   | none=>simp
   | some v=>rfl
  ·rfl
 simp only [opE,this]
 cases idxAV g.P t (opnd σ.env x) (opnd σ.env y) <;> rfl
theorem s_index {g:Cfg} {d f:Nat} (dst:Option Nat) (pos:String) (after:Array Edge) (ty:TypeId) (guard:Option (Nat × Bool)) (t:Nat) (ops:Array Oper) (l:List Oper) (K:List It) (σ:St) (x y:Operand) :
 stK g d f ops { dst,op:=.index t x y,type:=ty,pos,after,guard } l K σ=putK g d f ops dst l K ((idxAV g.P t (opnd σ.env x) (opnd σ.env y)).map fun v=>(.one (.s v),σ)):=by
 rw [st_op _ _ _ _ _ (by simp),opE_index]
theorem idx_str {P:Program} {t:TypeId} {s:ByteArray} {i c:Int} (hu:P.underlying t=some .string) (h:chr? s i=some c):idxAV P t (.one (.s (.string s))) (.one (.s (.int .i64 i)))=some (.int .u8 c):=by
 unfold chr? at h
 split at h
 ·rename_i hi
  rw [Option.map_eq_some_iff] at h
  obtain ⟨b,hb,rfl⟩:=h
  have h1:=pureOf_underlying hu
  simp [idxAV,sclr,Instr.index,pureOf_bind,asIntOf,pureOf,pure,h1,hi,hb,scal]
 ·cases h
section
variable (P:Program) (t:TypeId) (x y:Operand) (a b:Int)
@[simp] theorem tb_ltU:binAV P .lss t x y (.one (.s (.int .u8 a))) (.one (.s (.int .u8 b)))=some (.bool (ltI a b)):=by
 simp [binAV,sclr,eqGuard,binOp,Op.intCmp,pureOf,pure,bind,Sem.bind,scal,ltI]
@[simp] theorem tb_gtU:binAV P .gtr t x y (.one (.s (.int .u8 a))) (.one (.s (.int .u8 b)))=some (.bool (ltI b a)):=by
 simp [binAV,sclr,eqGuard,binOp,Op.intCmp,pureOf,pure,bind,Sem.bind,scal,ltI]
@[simp] theorem tb_leU:binAV P .leq t x y (.one (.s (.int .u8 a))) (.one (.s (.int .u8 b)))=some (.bool (leI a b)):=by
 simp [binAV,sclr,eqGuard,binOp,Op.intCmp,pureOf,pure,bind,Sem.bind,scal,leI]
@[simp] theorem tb_geU:binAV P .geq t x y (.one (.s (.int .u8 a))) (.one (.s (.int .u8 b)))=some (.bool (leI b a)):=by
 simp [binAV,sclr,eqGuard,binOp,Op.intCmp,pureOf,pure,bind,Sem.bind,scal,leI]
@[simp] theorem tb_eqU:binAV P .eql t x y (.one (.s (.int .u8 a))) (.one (.s (.int .u8 b)))=some (.bool (eqI a b)):=by
 simp [binAV,sclr,eqGuard,binOp,Op.intCmp,pureOf,pure,bind,Sem.bind,scal,eqI]
 rfl
@[simp] theorem tb_neU:binAV P .neq t x y (.one (.s (.int .u8 a))) (.one (.s (.int .u8 b)))=some (.bool (neI a b)):=by
 simp [binAV,sclr,eqGuard,binOp,Op.intCmp,pureOf,pure,bind,Sem.bind,scal,neI]
 by_cases h:a=b <;> simp [h]
end
attribute [simp] s_index
end Go.Ev


namespace Go.Ev
open Go.RowKit

theorem below_kept {w w':World} (hb:Below w.heap.size w w') (hs:w.heap.size≤w'.heap.size):Kept w w' :=
 ⟨⟨hb.os,hb.tape,hb.output⟩,fun a h=>⟨Nat.lt_of_lt_of_le h hs,hb.frozen h⟩⟩

def ghRow (G:Gh) (b n:Nat):Gh:={ G with own:=fun x=>if x=b then some (.at .ret []) else G.own x,use:=fun x=>if x=b then n else G.use x }

theorem row_back {w w':World} {G:Gh} {e:TypeId} {n sz:Nat} {vs:List Value} {v':Value} (h:w'.ownsRow w.heap.size e sz v' n vs) (hn:0 < n) (hs0:0 < sz) (hl:vs.length=n * sz) (hsc:∀ u∈vs,scal u=true)
 (hw:∀ b t,G.own b=some t→b < w.heap.size) (hsz:w.heap.size≤w'.heap.size) :
 ∃ G',RA w' G' .ret (.one (C.ofD .own (.sl n (vs.map D.sc)))) v'∧(∀ b,b < w.heap.size→G'.own b=G.own b∧G'.use b=G.use b)∧∀ b t,G'.own b=some t→b < w'.heap.size:=by
 obtain ⟨_,h⟩:=h
 rcases h with ⟨_,h0⟩|⟨g,cap,cur,rfl,hg,hheap,hcap,hmax,hcur,htake⟩
 ·omega
 ·have hglt:g < w'.heap.size:=by
   rcases Nat.lt_or_ge g w'.heap.size with hlt | hge
   ·exact hlt
   ·simp [Array.getElem?_eq_none hge] at hheap
  have hpos:0 < vs.length:=by rw [hl];exact Nat.mul_pos hn hs0
  refine ⟨ghRow G g vs.length,?_,fun b hb=>?_,fun b t hb=>?_⟩
  ·show RD w' _ .ret .own [] (.sl n (vs.map D.sc)) _
   rw [RD]
   refine .inr ⟨fun h0=>by rw [List.map_eq_nil_iff] at h0;rw [h0] at hpos;simp at hpos,hn,g,0,cap,rfl,hcap,?_,?_⟩
   ·refine ⟨by simp [ghRow],by simp [ghRow],rfl,cur,e,hheap,fun sz' hs=>?_⟩
    have:sz'=sz:=by
     have:n * sz'=n * sz:=by rw [← hl,← List.length_map (f:=D.sc)];exact hs.symm
     exact Nat.eq_of_mul_eq_mul_left hn this
    subst this
    omega
   ·refine RDs_of fun j d hd=>?_
    rw [List.getElem?_map] at hd
    have hj:j < vs.length:=by
     rcases Nat.lt_or_ge j vs.length with h | h
     ·exact h
     ·rw [List.getElem?_eq_none h] at hd;cases hd
    rw [List.getElem?_eq_getElem hj] at hd
    cases hd
    have hc:cur.toList[j]?=some vs[j]:=by
     have h1:(cur.toList.take (n * sz))[j]?=some vs[j]:=by rw [htake,List.getElem?_eq_getElem hj]
     rw [List.getElem?_take,if_pos (by omega)] at h1
     exact h1
    refine ⟨vs[j],?_,by rw [RD];exact ⟨rfl,hsc _ (List.getElem_mem hj)⟩⟩
    unfold World.cell?
    simp only [hheap,Nat.zero_add]
    rw [← hc]
    simp
  ·have:b≠g:=by omega
   simp [ghRow,this]
  ·simp only [ghRow] at hb
   split at hb
   ·rename_i he;rw [he];exact hglt
   ·exact Nat.lt_of_lt_of_le (hw b t hb) hsz

theorem empty_back {w':World} {G:Gh} {a:Option Addr}:RA w' G .ret (.one (C.ofD .own (.sl 0 []))) (.slice a 0 0):=by
 show RD w' G .ret .own [] (.sl 0 []) _
 rw [RD]
 exact .inl ⟨rfl,rfl,a,0,rfl,fun _=>rfl⟩

theorem row_came {w:World} {G:Gh} {o:Ow} {m:Md} {p:List Nat} {n:Nat} {vs:List Value} {v:Value} (h:RD w G o m p (.sl n (vs.map D.sc)) v) :
 (n=0∧vs=[]∧∃ a cap,v=.slice a 0 cap)∨(0 < n∧vs≠[]∧(∀ u∈vs,scal u=true)∧∃ b off cap,v=.slice (some ⟨b,off,none⟩) n cap∧∀ j u,vs[j]?=some u→w.cell? ⟨b,off+j,none⟩=some u):=by
 rw [RD] at h
 rcases h with ⟨h1,h2,a,cap,rfl,_⟩|⟨h1,h2,b,off,cap,rfl,hc,_,hs⟩
 ·exact .inl ⟨h2,List.map_eq_nil_iff.1 h1,a,cap,rfl⟩
 ·have hg:∀ j u,vs[j]?=some u→w.cell? ⟨b,off+j,none⟩=some u∧scal u=true:=fun j u hj=>by
   obtain ⟨x,hx,hr⟩:=RDs_get hs j (.sc u) (by rw [List.getElem?_map,hj];rfl)
   rw [RD] at hr
   obtain ⟨rfl,hr⟩:=hr
   rw [Nat.zero_add] at hx
   exact ⟨hx,hr⟩
  refine .inr ⟨h2,fun h0=>h1 (by rw [h0];rfl),fun u hu=>?_,b,off,cap,rfl,fun j u hj=>(hg j u hj).1⟩
  obtain ⟨j,hj⟩:=List.mem_iff_getElem?.1 hu
  exact (hg j u hj).2

class FlatE (α:Type) [Enc α] where
 fl:α→List Value
 eq:∀ x:α,Enc.enc x=(fl x).map D.sc
 sc:∀ x:α,∀ u∈fl x,scal u=true
def flL {α:Type} [Enc α] [FlatE α] (xs:List α):List Value:=xs.flatMap FlatE.fl
theorem encL_flat {α:Type} [Enc α] [FlatE α] (xs:List α):encL xs=(flL xs).map D.sc:=by
 induction xs with
 | nil=>rfl
 | cons x xs ih=>rw [encL_cons,ih,FlatE.eq];simp [flL]
theorem flL_length {α:Type} [Enc α] [FlatE α] (xs:List α):(flL xs).length=xs.length * Enc.sz α:=by
 rw [← encL_length,encL_flat,List.length_map]
@[simp] theorem flL_append {α:Type} [Enc α] [FlatE α] (xs ys:List α):flL (xs ++ ys)=flL xs ++ flL ys:=by simp [flL]
instance:FlatE Int:=⟨fun n=>[.int .i64 n],fun _=>rfl,fun _ u h=>by simp at h;subst h;rfl⟩
instance:FlatE Bool:=⟨fun n=>[.bool n],fun _=>rfl,fun _ u h=>by simp at h;subst h;rfl⟩
instance:FlatE ByteArray:=⟨fun n=>[.string n],fun _=>rfl,fun _ u h=>by simp at h;subst h;rfl⟩

def lib_Clone {α:Type} (bytes:Nat) (s:List α):Option (List α):=(room s.length bytes).bind fun _=>some s
theorem one_arg {w:World} {G:Gh} {vals:Array Value} {x:AV} (h:ArgsOK w G [x] vals):∃ v,vals = #[v]∧∀ d t,RA w G (.slot d t) x v:=by
 obtain ⟨h1,h2⟩:=h
 obtain ⟨v,hv,hr⟩:=h2 0 x rfl
 refine ⟨v,?_,hr⟩
 apply Array.ext_getElem?
 intro i
 match i with
 | 0=>rw [hv];rfl
 | i+1=>rw [Array.getElem?_eq_none (by rw [h1];simp)];rfl

theorem pc_clone {P:Program} {f:Nat} {α:Type} [Enc α] [FlatE α] {e:TypeId} {bytes:Nat} (hE:Enters P f)
 (hnil:∀ n c w,Calls P f #[.slice none n c] w fun e w'=>e=.returned (.slice none 0 0)∧w'=w)
 (hzero:∀ a c w,Calls P f #[.slice (some a) 0 c] w fun e w'=>∃ b,e=.returned (.slice b 0 0)∧Below w.heap.size w w')
 (hrow:∀ b off n c (vs:List Value) w,vs.length=n * Enc.sz α→n * bytes≤140737488355328→(∀ u∈vs,scal u=true)→(∀ j u,vs[j]?=some u→w.cell? ⟨b,off+j,none⟩=some u) →
  Calls P f #[.slice (some ⟨b,off,none⟩) n c] w fun e' w'=>∃ v',e'=.returned v'∧w'.ownsRow w.heap.size e (Enc.sz α) v' n vs∧Below w.heap.size w w') :
 PC P f (specP (X:=List α × Unit) fun x=>lib_Clone bytes x.1):=by
 refine ⟨hE,fun args r hr G w vals hG hL hage hA=>?_⟩
 unfold specP at hr
 split at hr
 ·rename_i hx
  obtain ⟨y,hy,rfl⟩:=Option.map_eq_some_iff.1 hr
  have ha:=Classical.choose_spec hx
  generalize Classical.choose hx=x at hy ha
  subst ha
  obtain ⟨xs,_⟩:=x
  simp only [lib_Clone] at hy
  obtain ⟨_,hroom,hy⟩:=Option.bind_eq_some_iff.1 hy
  obtain rfl:xs=y:=by simpa using hy
  have hb:=room_ok hroom
  obtain ⟨v,rfl,hv⟩:=one_arg (x:=av .shr xs) hA
  have hv:RD w G (.slot 0 0) .shr [] (.sl xs.length ((flL xs).map D.sc)) v:=by
   have:=hv 0 0
   rw [← encL_flat]
   exact this
  have hret:Res.res xs=AV.one (C.ofD .own (.sl xs.length ((flL xs).map D.sc))):=by rw [← encL_flat];rfl
  rw [hret]
  rcases row_came hv with ⟨h1,h2,a,cap,rfl⟩|⟨h1,h2,hsc,b,off,cap,rfl,hc⟩
  ·rw [h1,h2]
   have he:∀ (w':World) (a:Option Addr),Below w.heap.size w w'→∃ v G',Ending.returned (.slice a 0 0)=.returned v∧RA w' G' .ret (.one (C.ofD .own (.sl 0 (([]:List Value).map D.sc)))) v∧w.heap.size≤w'.heap.size∧Kept w w' ∧
    (∀ b,b < w.heap.size→w'.heap[b]?=w.heap[b]?∧G'.own b=G.own b∧G'.use b=G.use b)∧∀ b t,G'.own b=some t→b < w'.heap.size:=fun w' a hb =>
    ⟨_,G,rfl,empty_back,hb.size,below_kept hb hb.size,fun b hlt=>⟨hb.block b hlt,rfl,rfl⟩,fun b t ho=>Nat.lt_of_lt_of_le (hG b t ho).2 hb.size⟩
   cases a with
   | none=>exact (hnil 0 cap w).mono fun e w' hh=>by obtain ⟨rfl,rfl⟩:=hh;exact he _ _ (Below.refl _ _)
   | some a=>exact (hzero a cap w).mono fun e w' hh=>by obtain ⟨b,rfl,hb⟩:=hh;exact he _ _ hb
  ·have hl:=flL_length xs
   refine (hrow b off xs.length cap (flL xs) w hl (by have:=Nat.mul_le_mul_left xs.length (Nat.le_succ bytes);rw [← Nat.succ_eq_add_one] at hb;simp only [maxBytes] at hb;omega) hsc hc).mono fun e w' hh=>?_
   obtain ⟨v',rfl,hown,hbel⟩:=hh
   obtain ⟨G',g1,g2,g3⟩:=row_back (G:=G) hown h1 (Enc.pos (α:=α)) hl hsc (fun b t ho=>(hG b t ho).2) hbel.size
   exact ⟨v',G',rfl,g1,hbel.size,below_kept hbel hbel.size,fun b hlt=>⟨hbel.block b hlt,g2 b hlt⟩,g3⟩
 ·cases hr

def tot (nn:Nat→Nat):Nat→Nat
 | 0=>0
 | j+1=>tot nn j+nn j
def cat (ne:Nat→List Value):Nat→List Value
 | 0=>[]
 | j+1=>cat ne j ++ ne j
theorem tot_mono (nn:Nat→Nat):∀ {i j},i≤j→tot nn i≤tot nn j
 | i, 0, h => by obtain rfl : i = 0 := by omega
                 exact Nat.le_refl _
 | i,j+1,h=>by
  rcases Nat.lt_or_ge i (j+1) with h' | h'
  ·exact Nat.le_trans (tot_mono nn (i:=i) (j:=j) (by omega)) (Nat.le_add_right _ _)
  ·obtain rfl:i=j+1:=by omega
   exact Nat.le_refl _
def RowAt (w:World) (sz:Nat) (a:Option Addr) (m:Nat) (news:List Value):Prop :=
 news.length=m * sz∧(∀ u∈news,scal u=true)∧(m=0∨∃ b off,a=some ⟨b,off,none⟩∧∀ j u,news[j]?=some u→w.cell? ⟨b,off+j,none⟩=some u)
theorem scal_one {u:Value} (h:scal u=true):u.oneCell'=true:=by cases u <;> first | rfl | cases h

theorem run_append_rowAt {P:Program} {w w0:World} (base:Nat) (t ty e:TypeId) (i:TypeInfo) (z:Value) (size bytes:Nat) (ht:P.underlying t=some (.slice e)) (hi:P.info? e=some i) (hz:i.zero=some z)
 (hsize:i.size=size) (hby:i.bytes=bytes) (hzs:z.cells.size=size) (hsz:0 < size)
 (v:Value) (n:Nat) (xs:List Value) (hown:w.ownsRow base e size v n xs) (a:Option Addr) (m c:Nat) (news:List Value) (hrow:RowAt w0 size a m news) (hbel:∀ k,k < w0.heap.size→w.heap[k]?=w0.heap[k]?)
 (h63:n+m≤maxLen) (hbytes:(n+m) * bytes≤140737488355328) (hbase:base≤w.heap.size) :
 ∃ v' w',(Builtin.append_ #[t,t] ty #[v,.slice a m c]).run P w=.ok v' w'∧w'.ownsRow base e size v' (n+m) (xs ++ news)∧w.grownBy w' v.ownBlock∧(m=0→v'=v):=by
 obtain ⟨hl,hsc,hr⟩:=hrow
 rcases hr with h0 | ⟨b,off,rfl,hc⟩
 ·subst h0
  have hnews:news=[]:=List.length_eq_zero_iff.1 (by simpa using hl)
  subst hnews
  refine ⟨v,w,?_,by simpa using hown,⟨rfl,rfl,rfl,Nat.le_refl _,fun _ _ _=>rfl⟩,fun _=>rfl⟩
  rcases hown.2 with ⟨rfl,rfl⟩|⟨g,cap,cur,rfl,_,_,hnc,_⟩
  ·exact run_append_zero t ty e i ht hi none 0 0 (Nat.le_refl _) a c
  ·exact run_append_zero t ty e i ht hi _ n cap hnc a c
 ·rcases Nat.eq_zero_or_pos m with h0 | hm
  ·subst h0
   have hnews:news=[]:=List.length_eq_zero_iff.1 (by simpa using hl)
   subst hnews
   refine ⟨v,w,?_,by simpa using hown,⟨rfl,rfl,rfl,Nat.le_refl _,fun _ _ _=>rfl⟩,fun _=>rfl⟩
   rcases hown.2 with ⟨rfl,rfl⟩|⟨g,cap,cur,rfl,_,_,hnc,_⟩
   ·exact run_append_zero t ty e i ht hi none 0 0 (Nat.le_refl _) _ c
   ·exact run_append_zero t ty e i ht hi _ n cap hnc _ c
  ·obtain ⟨v',w',h1,h2,h3,_⟩:=run_append_own w base t ty e i z size bytes ht hi hz hsize hby hzs hsz v n xs hown ⟨b,off,none⟩ m c news hl (fun j u hj=>by
    rw [Addr.add_lit]
    have:=hc j u hj
    have hlt:b < w0.heap.size:=World.block_lt_of_cell? _ _ this
    rw [← this]
    exact World.cell?_of_block (hbel b hlt)) (fun u hu=>scal_one (hsc u hu)) h63 hbytes hbase
   exact ⟨v',w',h1,h2,h3,fun h0=>by omega⟩


theorem wrap_add {a b:Nat} (h:a+b≤maxLen):wrap64 ((a:Int)+(b:Int))=((a+b:Nat):Int):=by
 unfold maxLen at h
 unfold wrap64
 omega


theorem take_snoc {α:Type} {xss:List (List α)} {j:Nat} (h:j < xss.length):(xss.take (j+1)).flatten=(xss.take j).flatten ++ xss.getD j []:=by
 rw [List.take_add_one,List.getElem?_eq_getElem h,List.flatten_append]
 simp [List.getD,List.getElem?_eq_getElem h]
theorem tot_take {α:Type} (xss:List (List α)):∀ j,j≤xss.length→tot (fun i=>(xss.getD i []).length) j=(xss.take j).flatten.length
 | 0,_=>rfl
 | j+1,h=>by rw [tot,tot_take xss j (by omega),take_snoc (by omega),List.length_append]
theorem cat_take {α:Type} [Enc α] [FlatE α] (xss:List (List α)):∀ j,j≤xss.length→cat (fun i=>flL (xss.getD i [])) j=flL (xss.take j).flatten
 | 0,_=>rfl
 | j+1,h=>by rw [cat,cat_take xss j (by omega),take_snoc (by omega),flL_append]
theorem encLL {α:Type} [Enc α] (xss:List (List α)):encL xss=xss.map fun xs=>D.sl xs.length (encL xs):=by
 induction xss with
 | nil=>rfl
 | cons x xs ih=>rw [encL_cons,ih];rfl

def lib_Concat {α:Type} (bytes:Nat) (s:List (List α)):Option (List α):=(room s.length 24).bind fun _=>(room s.flatten.length bytes).bind fun _=>some s.flatten

theorem pc_concat {P:Program} {f:Nat} {α:Type} [Enc α] [FlatE α] {e:TypeId} {bytes:Nat} (hE:Enters P f)
 (hwalk:∀ (xa:Option Addr) (xb xo N xc:Nat) (ra:Nat→Option Addr) (nn rc:Nat→Nat) (ne:Nat→List Value) (w:World),(0 < N→xa=some ⟨xb,xo,none⟩)→N≤maxLen →
  (∀ j,j < N→w.cell? ⟨xb,xo+j,none⟩=some (.slice (ra j) (nn j) (rc j)))→(∀ j,j < N→RowAt w (Enc.sz α) (ra j) (nn j) (ne j))→tot nn N * bytes≤140737488355328 →
  Calls P f #[.slice xa N xc] w fun e' w'=>∃ v,e'=.returned v∧w'.ownsRow w.heap.size e (Enc.sz α) v (tot nn N) (cat ne N)∧(tot nn N=0→v=.slice none 0 0)∧Below w.heap.size w w') :
 PC P f (specP (X:=List (List α) × Unit) fun x=>lib_Concat bytes x.1):=by
 refine ⟨hE,fun args r hr G w vals hG hL hage hA=>?_⟩
 unfold specP at hr
 split at hr
 ·rename_i hx
  obtain ⟨y,hy,rfl⟩:=Option.map_eq_some_iff.1 hr
  have ha:=Classical.choose_spec hx
  generalize Classical.choose hx=x at hy ha
  subst ha
  obtain ⟨xss,_⟩:=x
  simp only [lib_Concat] at hy
  obtain ⟨_,hroom0,hy⟩:=Option.bind_eq_some_iff.1 hy
  obtain ⟨_,hroom,hy⟩:=Option.bind_eq_some_iff.1 hy
  obtain rfl:xss.flatten=y:=by simpa using hy
  have hb0:=room_ok hroom0
  have hb:=room_ok hroom
  obtain ⟨v,rfl,hv⟩:=one_arg (x:=av .shr xss) hA
  have hv:RD w G (.slot 0 0) .shr [] (.sl xss.length (encL xss)) v:=hv 0 0
  have hret:Res.res xss.flatten=AV.one (C.ofD .own (.sl xss.flatten.length ((flL xss.flatten).map D.sc))):=by rw [← encL_flat];rfl
  rw [hret]
  have key:∃ (xa:Option Addr) (xb xo xc:Nat) (ra:Nat→Option Addr) (rc:Nat→Nat),v=.slice xa xss.length xc∧(0 < xss.length→xa=some ⟨xb,xo,none⟩) ∧
   (∀ j,j < xss.length→w.cell? ⟨xb,xo+j,none⟩=some (.slice (ra j) ((xss.getD j []).length) (rc j)))∧(∀ j,j < xss.length→RowAt w (Enc.sz α) (ra j) ((xss.getD j []).length) (flL (xss.getD j []))):=by
   rw [RD] at hv
   rcases hv with ⟨h1,h2,a,cap,rfl,_⟩|⟨h1,h2,b,off,cap,rfl,hcap,_,hs⟩
   ·refine ⟨a,0,0,cap,fun _=>none,fun _=>0,by rw [h2],fun h=>by omega,fun j h=>by omega,fun j h=>by omega⟩
   ·have hg:∀ j,∃ a c,j < xss.length→w.cell? ⟨b,off+j,none⟩=some (.slice a ((xss.getD j []).length) c)∧RowAt w (Enc.sz α) a ((xss.getD j []).length) (flL (xss.getD j [])):=by
     intro j
     by_cases hj:j < xss.length
     ·have hd:(encL xss)[j]?=some (.sl xss[j].length ((flL xss[j]).map D.sc)):=by
       rw [encLL,List.getElem?_map,List.getElem?_eq_getElem hj,Option.map_some,encL_flat]
      obtain ⟨u,hu,hru⟩:=RDs_get hs j _ hd
      rw [Nat.zero_add] at hu
      have hl:=flL_length xss[j]
      simp only [List.getD,List.getElem?_eq_getElem hj,Option.getD_some]
      rcases row_came hru with ⟨h3,h4,a,c,rfl⟩|⟨h3,h4,hsc,b2,off2,c,rfl,hc⟩
      ·exact ⟨a,c,fun _=>⟨by rw [hu,h3],⟨hl,fun u hu=>by rw [h4] at hu;simp at hu,.inl h3⟩⟩⟩
      ·exact ⟨some ⟨b2,off2,none⟩,c,fun _=>⟨hu,⟨hl,hsc,.inr ⟨b2,off2,rfl,hc⟩⟩⟩⟩
     ·exact ⟨none,0,fun h=>absurd h hj⟩
    refine ⟨some ⟨b,off,none⟩,b,off,cap,fun j=>Classical.choose (hg j),fun j=>Classical.choose (Classical.choose_spec (hg j)),rfl,fun _=>rfl,fun j hj=>?_,fun j hj=>?_⟩
    ·exact (Classical.choose_spec (Classical.choose_spec (hg j)) hj).1
    ·exact (Classical.choose_spec (Classical.choose_spec (hg j)) hj).2
  obtain ⟨xa,xb,xo,xc,ra,rc,rfl,k1,k2,k3⟩:=key
  have ht:=tot_take xss xss.length (Nat.le_refl _)
  have hcat:=cat_take xss xss.length (Nat.le_refl _)
  rw [List.take_length] at ht hcat
  have hw:=hwalk xa xb xo xss.length xc ra (fun i=>(xss.getD i []).length) rc (fun i=>flL (xss.getD i [])) w k1 (by simp only [maxBytes] at hb0;unfold maxLen;omega) k2 k3
   (by rw [ht];have:=Nat.mul_le_mul_left xss.flatten.length (Nat.le_succ bytes);rw [← Nat.succ_eq_add_one] at hb;simp only [maxBytes] at hb;omega)
  rw [ht,hcat] at hw
  refine hw.mono fun e w' hh=>?_
  obtain ⟨v',rfl,hown,hnil,hbel⟩:=hh
  rcases Nat.eq_zero_or_pos xss.flatten.length with h0 | h0
  ·rw [hnil h0,List.length_eq_zero_iff.1 h0]
   exact ⟨_,G,rfl,empty_back,hbel.size,below_kept hbel hbel.size,fun b hlt=>⟨hbel.block b hlt,rfl,rfl⟩,fun b t ho=>Nat.lt_of_lt_of_le (hG b t ho).2 hbel.size⟩
  ·have hsc:∀ u∈flL xss.flatten,scal u=true:=by
    intro u hu
    obtain ⟨x,_,hx⟩:=List.mem_flatMap.1 hu
    exact FlatE.sc x u hx
   obtain ⟨G',g1,g2,g3⟩:=row_back (G:=G) hown h0 (Enc.pos (α:=α)) (flL_length _) hsc (fun b t ho=>(hG b t ho).2) hbel.size
   exact ⟨v',G',rfl,g1,hbel.size,below_kept hbel hbel.size,fun b hlt=>⟨hbel.block b hlt,g2 b hlt⟩,g3⟩
 ·cases hr

end Go.Ev


namespace Go.Ev
open Go.Sort

structure Two (w w':World) (b1 b2:Nat) (xs ys:List Int):Prop where
 size:w.heap.size≤w'.heap.size
 kept:Kept w w'
 same:∀ b,b < w.heap.size→b≠b1→b≠b2→w'.heap[b]?=w.heap[b]?
 one:∀ i x,xs[i]?=some x→w'.cell? ⟨b1,i,none⟩=some (.int .i64 x)
 two:∀ i x,ys[i]?=some x→w'.cell? ⟨b2,i,none⟩=some (.int .i64 x)

theorem encL_ints (xs:List Int):encL xs=xs.map fun x=>D.sc (.int .i64 x):=by
 induction xs with
 | nil=>rfl
 | cons x xs ih=>rw [encL_cons,ih];rfl

theorem own_row {w:World} {G:Gh} {o:Ow} {p:List Nat} {xs:List Int} {v:Value} (hx:xs≠[]) (h:RD w G o .own p (.sl xs.length (encL xs)) v) :
 ∃ b cap,v=.slice (some ⟨b,0,none⟩) xs.length cap∧xs.length≤cap∧G.own b=some (.at o p)∧xs.length=G.use b∧b < w.heap.size∧Holds (Value.int .i64) w b 0 xs.toArray:=by
 rw [RD] at h
 rcases h with ⟨h1,_⟩|⟨h1,h2,b,off,cap,rfl,hc,hn,hs⟩
 ·rw [encL_ints,List.map_eq_nil_iff] at h1
  exact absurd h1 hx
 ·obtain ⟨ho,hu,rfl,arr,e,hh,_⟩:=hn
  have hcell:∀ j x,xs[j]?=some x→w.cell? ⟨b,j,none⟩=some (.int .i64 x):=fun j x hj=>by
   obtain ⟨v,hv,hr⟩:=RDs_get hs j (.sc (.int .i64 x)) (by rw [encL_ints,List.getElem?_map,hj];rfl)
   rw [RD] at hr
   obtain ⟨rfl,_⟩:=hr
   simpa using hv
  have hb:b < w.heap.size:=by
   rcases Nat.lt_or_ge b w.heap.size with h | h
   ·exact h
   ·simp [Array.getElem?_eq_none h] at hh
  refine ⟨b,cap,rfl,hc,ho,by rw [encL_ints] at hu;simpa using hu,hb,fun j hj=>?_⟩
  have hj:j < xs.length:=by simpa using hj
  refine ⟨?_,by simp [World.frozen?,hh]⟩
  rw [Nat.zero_add,hcell j xs[j] (List.getElem?_eq_getElem hj)]
  simp [hj]

theorem shr_row {w:World} {G:Gh} {o:Ow} {p:List Nat} {xs:List Int} {b cap n:Nat} (hc:n≤cap) (hl:xs.length≤n) (ho:G.own b=none) (hu:n≤G.use b)
 (h:∀ i x,xs[i]?=some x→w.cell? ⟨b,i,none⟩=some (.int .i64 x)):RD w G o .shr p (.sl xs.length (encL xs)) (.slice (some ⟨b,0,none⟩) xs.length cap):=by
 rw [RD]
 by_cases hx:xs=[]
 ·subst hx
  exact .inl ⟨rfl,rfl,_,_,rfl,by simp [Md.isOwn]⟩
 ·refine .inr ⟨by rw [encL_ints,Ne,List.map_eq_nil_iff];exact hx,List.length_pos_iff.2 hx,b,0,cap,rfl,by omega,⟨ho,by rw [encL_ints];simp;omega⟩,RDs_of fun j d hd=>?_⟩
  rw [encL_ints,List.getElem?_map] at hd
  cases hj:xs[j]? with
  | none=>rw [hj] at hd;cases hd
  | some x =>
   rw [hj] at hd
   cases hd
   exact ⟨_,by simpa using h j x hj,by rw [RD];exact ⟨rfl,rfl⟩⟩

open Classical in
theorem callE_two {P:Program} {f:Nat} {xs ys xs' ys':List Int} {c:Int} (hE:Enters P f) (hx:xs≠[]) (hy:ys≠[]) (lx:xs'.length≤xs.length) (ly:ys'.length≤ys.length)
 (H:∀ (w:World) (b1 b2 c1 c2:Nat),b1≠b2→b1 < w.heap.size→b2 < w.heap.size→Holds (Value.int .i64) w b1 0 xs.toArray→Holds (Value.int .i64) w b2 0 ys.toArray→xs.length≤c1→ys.length≤c2 →
  Calls P f #[.agg #[.slice (some ⟨b1,0,none⟩) xs.length c1,.slice (some ⟨b2,0,none⟩) ys.length c2],.int .i64 c] w fun e w' =>
   e=.returned (.agg #[.slice (some ⟨b1,0,none⟩) xs'.length c1,.slice (some ⟨b2,0,none⟩) ys'.length c2])∧Two w w' b1 b2 xs' ys') :
 CallE P 0 f [.ag [.l .own xs.length (encL xs),.l .own ys.length (encL ys)],.one (.s (.int .i64 c))] mem0 mem0 (.ag [.l .shr xs'.length (encL xs'),.l .shr ys'.length (encL ys')]):=by
 refine ⟨hE,fun G w vals hsz hargs hM _=>?_⟩
 obtain ⟨v0,hv0,hr0⟩:=hargs 0 _ rfl
 obtain ⟨v1,hv1,hr1⟩:=hargs 1 _ rfl
 obtain ⟨vs,rfl,hl,hcs⟩:=hr0
 obtain ⟨x1,h1,r1⟩:=hcs 0 _ rfl
 obtain ⟨x2,h2,r2⟩:=hcs 1 _ rfl
 obtain ⟨rfl,_⟩:=hr1
 obtain ⟨b1,c1,rfl,hc1,ho1,hu1,hb1,hh1⟩:=own_row hx r1
 obtain ⟨b2,c2,rfl,hc2,ho2,hu2,hb2,hh2⟩:=own_row hy r2
 have hne:b1≠b2:=by
  rintro rfl
  rw [ho1] at ho2
  simp at ho2
 have hvs:vs = #[.slice (some ⟨b1,0,none⟩) xs.length c1,.slice (some ⟨b2,0,none⟩) ys.length c2]:=by
  apply Array.ext_getElem?
  intro i
  match i with
  | 0=>simpa using h1
  | 1=>simpa using h2
  | i+2 =>
   rw [Array.getElem?_eq_none (by have : vs.size = 2 := by simpa using hl
                                  omega)]
   rfl
 have hvals:vals = #[.agg vs,.int .i64 c]:=by
  apply Array.ext_getElem?
  intro i
  match i with
  | 0=>simpa using hv0
  | 1=>simpa using hv1
  | i+2 =>
   rw [Array.getElem?_eq_none (by have : vals.size = 2 := by simpa using hsz
                                  omega)]
   rfl
 subst hvals
 subst hvs
 refine (H w b1 b2 c1 c2 hne hb1 hb2 hh1 hh2 hc1 hc2).mono fun e w' he=>?_
 obtain ⟨rfl,T⟩:=he
 have ha1:=hM.aged b1 _ ho1
 have ha2:=hM.aged b2 _ ho2
 have ha1:1≤G.age b1:=ha1
 have ha2:1≤G.age b2:=ha2
 let own':Nat→Option Tag:=fun b=>if b=b1∨b=b2 then none else if touch 1 (G.own b) then some .foreign else G.own b
 let G':Gh:={ G with own:=own',age:=fun _=>0 }
 have hshape:∀ b t,own' b=some t→G.own b≠none∧(t=.foreign∨G.own b=some t∧¬ touch 1 (G.own b)):=fun b t hb=>by
  simp only [own'] at hb
  split at hb
  ·cases hb
  ·split at hb
   ·rename_i ht
    cases hb
    refine ⟨fun h0=>?_,.inl rfl⟩
    rw [h0] at ht
    exact ht
   ·rename_i ht
    exact ⟨fun h0=>(by rw [h0] at hb;cases hb),.inr ⟨hb,ht⟩⟩
 refine ⟨_,G',rfl,?_,?_,?_⟩
 ·refine ⟨_,rfl,by simp,fun j c hj=>?_⟩
  match j with
  | 0 =>
   cases hj
   exact ⟨_,rfl,shr_row (n:=xs.length) hc1 lx (by simp [G',own']) (by show _≤G.use b1;omega) T.one⟩
  | 1 =>
   cases hj
   exact ⟨_,rfl,shr_row (n:=ys.length) hc2 ly (by simp [G',own']) (by show _≤G.use b2;omega) T.two⟩
  | j+2=>cases hj
 ·exact {
   cells:=fun k cs hk=>by cases hk
   live:=hM.live
   dep:=fun k hk=>by have:=(hM.live k).1 hk;cases this
   wf:=fun b t hb=>by
    obtain ⟨h1,_⟩:=hshape b t hb
    cases ho:G.own b with
    | none=>exact absurd ho h1
    | some t0=>exact Nat.lt_of_lt_of_le (hM.wf b t0 ho) T.size
   wfb:=fun b k hb=>by
    rcases (hshape b _ hb).2 with h | ⟨h,ht⟩
    ·cases h
    ·rw [h] at ht;exact absurd trivial ht
   wfc:=fun b k p hb=>by
    rcases (hshape b _ hb).2 with h | ⟨h,ht⟩
    ·cases h
    ·rw [h] at ht;exact absurd trivial ht
   age:=fun b=>Nat.le_refl _
   fut:=fun b _=>rfl
   aged:=fun b t hb=>by
    rcases (hshape b _ hb).2 with rfl | ⟨h,ht⟩
    ·exact Nat.le_refl _
    ·rw [h] at ht
     cases t with
     | foreign=>exact Nat.le_refl _
     | box k=>exact absurd trivial ht
     | «at» o p =>
      cases o with
      | slot e i =>
       have ht:¬ 1≤e:=ht
       show e≤0
       omega
      | cell k=>exact absurd trivial ht
      | ret=>exact absurd trivial ht }
 ·exact {
   size:=T.size
   kept:=T.kept
   same:=fun b hb ht=>by
    have n1:b≠b1:=by rintro rfl;rw [ho1] at ht;exact ht (Nat.le_refl _)
    have n2:b≠b2:=by rintro rfl;rw [ho2] at ht;exact ht (Nat.le_refl _)
    refine ⟨T.same b hb n1 n2,?_,rfl⟩
    show own' b=_
    simp [own',n1,n2,ht]
   age:=fun b hb ha=>by show 0=G.age b;omega
   box:=fun b hb ha hk k hbk=>by
    rcases (hshape b _ hbk).2 with h | ⟨h,ht⟩
    ·cases h
    ·exact hk k h
   use:=fun b _ _=>Nat.le_refl _
   cell:=fun b off hb ha _ _=>by
    have n1:b≠b1:=by rintro rfl;omega
    have n2:b≠b2:=by rintro rfl;omega
    unfold World.cell?
    simp only [T.same b hb n1 n2]
   live:=fun k hk _=>⟨hk,rfl,rfl⟩
   back:=fun _ _ h=>h
   up:=fun _ _=>Nat.le_refl _ }

def decI (c x:Int):Int:=if c < x then subI x 1 else x
def withoutF (h:THeap) (c:Int):Option THeap :=
 if h.vars≠[]∧h.vars.length≤1000000∧h.next.length≤1000000∧0≤c∧c < (h.next.length:Int) then some ⟨h.vars.map (decI c),((h.next.take c.toNat) ++ h.next.drop (c.toNat+1)).map (decI c)⟩ else none

open Classical in
def specOS {X R:Type} [OArgs X] [Enc R] (F:X→Option R):List AV→Option AV:=fun as=>if h:∃ x,OArgs.args x=as then (F (Classical.choose h)).map (av .shr) else none
theorem specOS_eq {X R:Type} [OArgs X] [Enc R] {F:X→Option R} {x:X} {y:R} (h:F x=some y):specOS F (OArgs.args x)=some (av .shr y):=by
 unfold specOS
 have hx:∃ z,OArgs.args z=OArgs.args x:=⟨x,rfl⟩
 rw [dif_pos hx,OArgs.inj _ _ (Classical.choose_spec hx),h]
 rfl

theorem po_without {P:Program} {f:Nat} (hE:Enters P f)
 (H:∀ (xs ys:List Int) (c:Nat) (w:World) (b1 b2 c1 c2:Nat),xs.length≤1000000→ys.length≤1000000→c < ys.length→b1≠b2→b1 < w.heap.size→b2 < w.heap.size→Holds (Value.int .i64) w b1 0 xs.toArray→Holds (Value.int .i64) w b2 0 ys.toArray→xs.length≤c1→ys.length≤c2 →
  Calls P f #[.agg #[.slice (some ⟨b1,0,none⟩) xs.length c1,.slice (some ⟨b2,0,none⟩) ys.length c2],.int .i64 c] w fun e w' =>
   e=.returned (.agg #[.slice (some ⟨b1,0,none⟩) xs.length c1,.slice (some ⟨b2,0,none⟩) (ys.length - 1) c2])∧Two w w' b1 b2 (xs.map (decI c)) ((ys.take c ++ ys.drop (c+1)).map (decI c))) :
 PO P f (specOS (X:=THeap × Int × Unit) fun x=>withoutF x.1 x.2.1):=by
 intro args r hF d mem hdep hB
 unfold specOS at hF
 split at hF
 ·rename_i hx
  obtain ⟨y,hy,rfl⟩:=Option.map_eq_some_iff.1 hF
  have hs:=Classical.choose_spec hx
  generalize Classical.choose hx=x at hy hs
  subst hs
  obtain ⟨⟨xs,ys⟩,c,_⟩:=x
  simp only [withoutF] at hy
  split at hy
  ·rename_i hc
   obtain ⟨k1,k2,k3,k4,k5⟩:=hc
   cases hy
   have hd:=OArgs.data ((⟨xs,ys⟩,c,()):THeap × Int × Unit)
   obtain ⟨n,rfl⟩:=Int.eq_ofNat_of_zero_le k4
   have hlen:((ys.take n ++ ys.drop (n+1)).map (decI n)).length=ys.length - 1:=by simp;omega
   have hn:n < ys.length:=by omega
   refine po_call (callE_two (xs:=xs) (ys:=ys) (xs':=xs.map (decI n)) (ys':=(ys.take n ++ ys.drop (n+1)).map (decI n)) (c:=n) hE k1 (by rintro rfl;simp at hn) (by simp) (by omega) fun w b1 b2 c1 c2 h1 h2 h3 h4 h5 h6 h7=>?_) hd (.inr ?_) hdep hB
   ·rw [hlen,List.length_map]
    exact H xs ys n w b1 b2 c1 c2 k2 k3 hn h1 h2 h3 h4 h5 h6 h7
   ·rfl
  ·cases hy
 ·cases hF
structure WJ (w wr:World) (b1 b2 hb rb g:Nat) (s1 s2:Value) (d1 d2:Array Int):Prop where
 h1:Holds (Value.int .i64) wr b1 0 d1
 h2:Holds (Value.int .i64) wr b2 0 d2
 hh0:wr.cell? ⟨hb,0,none⟩=some s1
 hh1:wr.cell? ⟨hb,1,none⟩=some s2
 hg0:wr.cell? ⟨g,0,none⟩=some s1
 hg1:wr.cell? ⟨g,1,none⟩=some s2
 hr:∃ z0 z1 ty,wr.heap[rb]?=some (.cells #[z0,z1] ty (0,0))
 size:w.heap.size≤wr.heap.size
 kept:Kept w wr
 same:∀ b,b < w.heap.size→b≠b1→b≠b2→wr.heap[b]?=w.heap[b]?

def decTo (c:Int) (d:Array Int) (i:Nat):Array Int:=(((d.toList.take i).map (decI c)) ++ d.toList.drop i).toArray
theorem decTo_zero (c:Int) (d:Array Int):decTo c d 0=d:=by simp [decTo]
theorem decTo_size (c:Int) (d:Array Int) (i:Nat):(decTo c d i).size=d.size:=by simp [decTo];omega
theorem decTo_at (c:Int) (d:Array Int) (i:Nat) (h:i < d.size):(decTo c d i)[i]! = d[i]!:=by
 rw [getElem!_pos (decTo c d i) i (by rw [decTo_size];exact h),getElem!_pos d i h]
 simp only [decTo,List.getElem_toArray]
 rw [List.getElem_append_right (by simp;omega)]
 have:i+(i - min i d.size)=i:=by omega
 simp [this]
theorem decTo_succ (c:Int) (d:Array Int) (i:Nat) (h:i < d.size):(decTo c d i).setIfInBounds i (decI c d[i]!)=decTo c d (i+1):=by
 apply Array.ext_getElem?
 intro t
 rw [Array.getElem?_setIfInBounds,decTo_size,getElem!_pos d i h]
 simp only [decTo,List.getElem?_toArray]
 by_cases h1:i=t
 ·subst h1
  rw [if_pos rfl,if_pos h,List.getElem?_append_left (by simp;omega)]
  simp [h]
 ·rw [if_neg h1]
  by_cases h2:t < i
  ·rw [List.getElem?_append_left (by simp;omega),List.getElem?_append_left (by simp;omega)]
   simp [List.getElem?_take,h2,Nat.lt_succ_of_lt h2]
  ·rw [List.getElem?_append_right (by simp;omega),List.getElem?_append_right (by simp;omega)]
   simp [List.getElem?_drop]
   congr 1
   omega
theorem setI_same (d:Array Int) (i:Nat):d.setIfInBounds i d[i]! = d:=by
 apply Array.ext_getElem?
 intro t
 rw [Array.getElem?_setIfInBounds]
 by_cases h:i=t
 ·subst h
  by_cases hl:i < d.size
  ·rw [if_pos rfl,if_pos hl,getElem!_pos d i hl,Array.getElem?_eq_getElem hl]
  ·rw [if_pos rfl,if_neg hl,Array.getElem?_eq_none (by omega)]
 ·rw [if_neg h]
theorem decTo_all (c:Int) (d:Array Int):decTo c d d.size=(d.toList.map (decI c)).toArray:=by
 have h1:List.take d.size d.toList=d.toList:=List.take_of_length_le (by simp)
 have h2:List.drop d.size d.toList=[]:=List.drop_eq_nil_of_le (by simp)
 rw [decTo,h1,h2,List.append_nil]

theorem WJ.set1 {w wr:World} {b1 b2 hb rb g:Nat} {s1 s2:Value} {d1 d2:Array Int} (h:WJ w wr b1 b2 hb rb g s1 s2 d1 d2) (n1:b1≠b2) (n2:hb≠b1) (n3:rb≠b1) (n4:g≠b1) {i:Nat} (hi:i < d1.size) (x:Int) :
 WJ w (wr.setCell ⟨b1,0+i,none⟩ (.int .i64 x)) b1 b2 hb rb g s1 s2 (d1.setIfInBounds i x) d2:=by
 have e:wr.setCell ⟨b1,0+i,none⟩ (.int .i64 x)=putRow (Value.int .i64) wr b1 0 (d1.setIfInBounds i x):=by
  have:=putRow_set (Value.int .i64) wr b1 0 d1 i x hi
  rwa [putRow_self _ _ _ _ _ h.h1] at this
 have oth:∀ b o,b≠b1→(putRow (Value.int .i64) wr b1 0 (d1.setIfInBounds i x)).cell? ⟨b,o,none⟩=wr.cell? ⟨b,o,none⟩:=fun b o hb=>cell?_putRow_other _ _ _ _ _ _ (.inl hb)
 rw [e]
 refine ⟨holds_putRow _ _ _ _ d1 _ h.h1 (by simp),fun j hj=>⟨?_,by rw [frozen?_putRow];exact (h.h2 j hj).2⟩,?_,?_,?_,?_,?_,by rw [size_putRow];exact h.size,?_,fun b hb' q1 q2=>?_⟩
 ·rw [oth _ _ n1.symm];exact (h.h2 j hj).1
 ·rw [oth _ _ n2];exact h.hh0
 ·rw [oth _ _ n2];exact h.hh1
 ·rw [oth _ _ n4];exact h.hg0
 ·rw [oth _ _ n4];exact h.hg1
 ·obtain ⟨z0,z1,ty,hz⟩:=h.hr
  refine ⟨z0,z1,ty,?_⟩
  rw [← hz]
  simp only [putRow,mapBlock,Array.getElem?_modify,if_neg (Ne.symm n3)]
 ·exact h.kept.trans ⟨⟨rfl,rfl,rfl⟩,fun a ha=>⟨by rwa [size_putRow],frozen?_putRow _ _ _ _ _ _⟩⟩
 ·rw [← h.same b hb' q1 q2]
  simp only [putRow,mapBlock,Array.getElem?_modify,if_neg (Ne.symm q1)]
theorem heapA (w:World) (o:Obj) {b:Nat} (h:b < w.heap.size):(w.alloc o).heap[b]?=w.heap[b]?:=by
 show (w.heap.push o)[b]?=_
 rw [Array.getElem?_push,if_neg (by omega)]
theorem heapN (w:World) (o:Obj) {n:Nat} (h:n=w.heap.size):(w.alloc o).heap[n]?=some o:=by
 subst h
 show (w.heap.push o)[w.heap.size]?=_
 simp
theorem cellH {w:World} {b i:Nat} {cs:Array Value} {ty:TypeId} (h:w.heap[b]?=some (.cells cs ty (0,0))):w.cell? ⟨b,i,none⟩=cs[i]?∧w.frozen? ⟨b,i,none⟩=false:=by
 refine ⟨?_,by simp [World.frozen?,h]⟩
 unfold World.cell?
 simp [h]
theorem WJ.start {w:World} {b1 b2 q:Nat} {s1 s2 s2' z1 z2:Value} {d1 d2 d2':Array Int} {ty ty':TypeId} (hne:b1≠b2) (hb1:b1 < w.heap.size) (hb2:b2 < w.heap.size) (H1:Holds (Value.int .i64) w b1 0 d1) (H2:Holds (Value.int .i64) w b2 0 d2) (hd:d2'.size=d2.size)
 {W:World} (hW:W=putRow (Value.int .i64) (Sort.ahead ((w.alloc (.cells #[s1,s2] ty)).alloc (.cells #[z1,z2] ty)) q) b2 0 d2') :
 (W.cell? ⟨w.heap.size,0,none⟩=some s1∧W.cell? ⟨w.heap.size,1,none⟩=some s2∧W.frozen? ⟨w.heap.size,1,none⟩=false∧W.heap.size=w.heap.size+2) ∧
 WJ w ((W.setCell ⟨w.heap.size,1,none⟩ s2').alloc (.cells #[s1,s2'] ty')) b1 b2 w.heap.size (w.heap.size+1) (w.heap.size+2) s1 s2' d1 d2':=by
 have hsz:W.heap.size=w.heap.size+2:=by rw [hW,size_putRow];simp [Sort.ahead]
 have hp:∀ b,b≠b2→W.heap[b]?=((w.alloc (.cells #[s1,s2] ty)).alloc (.cells #[z1,z2] ty)).heap[b]?:=fun b hb=>by
  rw [hW]
  simp only [putRow,mapBlock,Array.getElem?_modify,if_neg (Ne.symm hb)]
  rfl
 have h0:W.heap[w.heap.size]?=some (.cells #[s1,s2] ty (0,0)):=by rw [hp _ (by omega),heapA _ _ (by simp),heapN _ _ rfl]
 have h1:W.heap[w.heap.size+1]?=some (.cells #[z1,z2] ty (0,0)):=by rw [hp _ (by omega),heapN _ _ (by simp)]
 have hold:∀ b,b < w.heap.size→b≠b2→W.heap[b]?=w.heap[b]?:=fun b hb hn=>by rw [hp b hn,heapA _ _ (by simp;omega),heapA _ _ hb]
 have hV:∀ b,b≠w.heap.size→b < w.heap.size+2→((W.setCell ⟨w.heap.size,1,none⟩ s2').alloc (.cells #[s1,s2'] ty')).heap[b]?=W.heap[b]?:=fun b hb hl=>by
  rw [heapA _ _ (by rw [World.size_setCell,hsz];exact hl)]
  simp only [World.setCell,Array.getElem?_modify]
  rw [if_neg (Ne.symm hb)]
 have hV0:((W.setCell ⟨w.heap.size,1,none⟩ s2').alloc (.cells #[s1,s2'] ty')).heap[w.heap.size]?=some (.cells #[s1,s2'] ty (0,0)):=by
  rw [heapA _ _ (by rw [World.size_setCell,hsz];omega)]
  simp only [World.setCell,Array.getElem?_modify,h0,if_true]
  rfl
 have hVg:((W.setCell ⟨w.heap.size,1,none⟩ s2').alloc (.cells #[s1,s2'] ty')).heap[w.heap.size+2]?=some (.cells #[s1,s2'] ty' (0,0)):=heapN _ _ (by rw [World.size_setCell,hsz])
 have hVs:((W.setCell ⟨w.heap.size,1,none⟩ s2').alloc (.cells #[s1,s2'] ty')).heap.size=w.heap.size+3:=by simp [hsz]
 have hH2:Holds (Value.int .i64) W b2 0 d2':=by
  rw [hW]
  refine holds_putRow _ _ _ _ d2 _ ?_ hd
  intro j hj
  have hf:((w.alloc (.cells #[s1,s2] ty)).alloc (.cells #[z1,z2] ty)).heap[b2]?=w.heap[b2]?:=by rw [heapA _ _ (by simp;omega),heapA _ _ hb2]
  have:=H2 j hj
  unfold World.cell? World.frozen? at *
  simp only [Sort.ahead,hf] at *
  exact this
 have move:∀ (X Y:World) (b:Nat) (d:Array Int),Y.heap[b]?=X.heap[b]?→Holds (Value.int .i64) X b 0 d→Holds (Value.int .i64) Y b 0 d:=fun X Y b d he hX j hj=>by
  have:=hX j hj
  unfold World.cell? World.frozen? at *
  simp only [he] at *
  exact this
 refine ⟨⟨(cellH h0).1,(cellH h0).1,(cellH h0).2,hsz⟩,?_⟩
 refine ⟨move w _ b1 d1 (by rw [hV b1 (by omega) (by omega),hold b1 hb1 hne]) H1,move W _ b2 d2' (hV b2 (by omega) (by omega)) hH2,(cellH hV0).1,(cellH hV0).1,(cellH hVg).1,(cellH hVg).1,⟨_,_,_,(hV (w.heap.size+1) (by omega) (by omega)).trans h1⟩,by rw [hVs];omega,?_,fun b hb n1 n2=>by rw [hV b (by omega) (by omega),hold b hb n2]⟩
 ·refine ⟨by rw [hW];exact ⟨rfl,rfl,rfl⟩,fun a ha=>⟨by rw [hVs];omega,?_⟩⟩
  by_cases hb:a.block=b2
  ·have e1:((W.setCell ⟨w.heap.size,1,none⟩ s2').alloc (.cells #[s1,s2'] ty')).frozen? a=W.frozen? a:=by
    unfold World.frozen?
    rw [hV a.block (by omega) (by omega)]
   rw [e1,hW,frozen?_putRow]
   unfold World.frozen?
   simp only [Sort.ahead]
   rw [heapA _ _ (by simp;omega),heapA _ _ ha]
  ·unfold World.frozen?
   rw [hV a.block (by omega) (by omega),hold a.block ha hb]
theorem WJ.swap {w wr:World} {b1 b2 hb rb g:Nat} {s1 s2:Value} {d1 d2:Array Int} (h:WJ w wr b1 b2 hb rb g s1 s2 d1 d2) (n1:b1≠b2) (n2:hb≠b2) (n3:rb≠b2) (n4:g≠b2) {i:Nat} (hi:i < d2.size) (x:Int) :
 WJ w (wr.setCell ⟨b2,0+i,none⟩ (.int .i64 x)) b1 b2 hb rb g s1 s2 d1 (d2.setIfInBounds i x):=by
 have e:wr.setCell ⟨b2,0+i,none⟩ (.int .i64 x)=putRow (Value.int .i64) wr b2 0 (d2.setIfInBounds i x):=by
  have:=putRow_set (Value.int .i64) wr b2 0 d2 i x hi
  rwa [putRow_self _ _ _ _ _ h.h2] at this
 have oth:∀ b o,b≠b2→(putRow (Value.int .i64) wr b2 0 (d2.setIfInBounds i x)).cell? ⟨b,o,none⟩=wr.cell? ⟨b,o,none⟩:=fun b o hb=>cell?_putRow_other _ _ _ _ _ _ (.inl hb)
 rw [e]
 refine ⟨fun j hj=>⟨?_,by rw [frozen?_putRow];exact (h.h1 j hj).2⟩,holds_putRow _ _ _ _ d2 _ h.h2 (by simp),?_,?_,?_,?_,?_,by rw [size_putRow];exact h.size,?_,fun b hb' q1 q2=>?_⟩
 ·rw [oth _ _ n1];exact (h.h1 j hj).1
 ·rw [oth _ _ n2];exact h.hh0
 ·rw [oth _ _ n2];exact h.hh1
 ·rw [oth _ _ n4];exact h.hg0
 ·rw [oth _ _ n4];exact h.hg1
 ·obtain ⟨z0,z1,ty,hz⟩:=h.hr
  refine ⟨z0,z1,ty,?_⟩
  rw [← hz]
  simp only [putRow,mapBlock,Array.getElem?_modify,if_neg (Ne.symm n3)]
 ·exact h.kept.trans ⟨⟨rfl,rfl,rfl⟩,fun a ha=>⟨by rwa [size_putRow],frozen?_putRow _ _ _ _ _ _⟩⟩
 ·rw [← h.same b hb' q1 q2]
  simp only [putRow,mapBlock,Array.getElem?_modify,if_neg (Ne.symm q2)]
theorem WJ.done {w wr:World} {b1 b2 hb rb g c:Nat} {s1 s2:Value} {d1 D2:Array Int} {L:List Int} (h:WJ w wr b1 b2 hb rb g s1 s2 (decTo c d1 d1.size) (decTo c D2 L.length)) (hD:D2=(L ++ [0]).toArray) (n1:b1≠rb) (n2:b2≠rb) (n3:w.heap.size≤rb) :
 (∃ ty,((wr.setCell ⟨rb,0,none⟩ s1).setCell ⟨rb,1,none⟩ s2).heap[rb]?=some (.cells #[s1,s2] ty (0,0)))∧Two w ((wr.setCell ⟨rb,0,none⟩ s1).setCell ⟨rb,1,none⟩ s2) b1 b2 (d1.toList.map (decI c)) (L.map (decI c)):=by
 obtain ⟨z0,z1,ty,hz⟩:=h.hr
 have oth:∀ b,b≠rb→((wr.setCell ⟨rb,0,none⟩ s1).setCell ⟨rb,1,none⟩ s2).heap[b]?=wr.heap[b]?:=fun b hb=>by
  simp only [World.setCell,Array.getElem?_modify,if_neg (Ne.symm hb)]
 refine ⟨⟨ty,?_⟩,by simp;exact h.size,?_,fun b hb q1 q2=>by rw [oth b (by omega)];exact h.same b hb q1 q2,fun i x hi=>?_,fun i x hi=>?_⟩
 ·simp only [World.setCell,Array.getElem?_modify,hz,if_true,Option.map_some]
  rfl
 ·exact h.kept.trans ⟨⟨rfl,rfl,rfl⟩,fun a ha=>⟨by simpa using ha,by simp⟩⟩
 ·have hlt:i < d1.size:=by
   have:=(List.getElem?_eq_some_iff.1 hi).1
   simpa using this
  have:=(h.h1 i (by rw [decTo_size];exact hlt)).1
  rw [decTo_all,Nat.zero_add] at this
  have e:((d1.toList.map (decI c)).toArray)[i]! = x:=by
   rw [getElem!_pos _ i (by simpa using hlt)]
   have:=(List.getElem?_eq_some_iff.1 hi).2
   simpa using this
  rw [e] at this
  rw [← this]
  unfold World.cell?
  simp only [oth b1 n1]
 ·have hlt:i < L.length:=by
   have:=(List.getElem?_eq_some_iff.1 hi).1
   simpa using this
  have:=(h.h2 i (by rw [decTo_size,hD];simp;omega)).1
  rw [Nat.zero_add] at this
  have e:(decTo c D2 L.length)[i]! = x:=by
   rw [getElem!_pos _ i (by rw [decTo_size,hD];simp;omega)]
   have hx:=(List.getElem?_eq_some_iff.1 hi).2
   simp only [decTo,hD,List.getElem_toArray]
   rw [List.getElem_append_left (by simp;omega)]
   simpa [List.getElem_append_left hlt] using hx
  rw [e] at this
  rw [← this]
  unfold World.cell?
  simp only [oth b2 n2]
end Go.Ev


namespace Go.Ev
def digC (k:Int):ByteArray:=⟨#[UInt8.ofNat (48+(k.tmod 10)).toNat]⟩
def digsF:Nat→Int→ByteArray→ByteArray
 | 0,_,out=>out
 | f+1,k,out=>if 0 < k then digsF f (IntKind.i64.wrap (k.tdiv 10)) (digC k ++ out) else out
def textF (k:Int):ByteArray:=if k≤0 then ⟨#[109,48]⟩ else ⟨#[109]⟩ ++ digsF 21 k ⟨#[]⟩
open Go.RowKit in
theorem pc_text {P:Program} {f:Nat} (F:Int→ByteArray) (hE:Enters P f) (h:∀ (k:Int) (w:World),Calls P f #[.int .i64 k] w fun e w'=>e=.returned (.string (F k))∧Below w.heap.size w w') :
 PC P f (specP (X:=Int × Unit) fun x=>some (F x.1)):=by
 refine ⟨hE,fun args r hr G w vals hG hL hage hA=>?_⟩
 unfold specP at hr
 split at hr
 ·rename_i hx
  obtain ⟨y,hy,rfl⟩:=Option.map_eq_some_iff.1 hr
  have ha:=Classical.choose_spec hx
  generalize Classical.choose hx=x at hy ha
  subst ha
  obtain ⟨k,_⟩:=x
  obtain rfl:F k=y:=by simpa using hy
  obtain ⟨v,rfl,hv⟩:=one_arg (x:=av .shr k) hA
  obtain ⟨rfl,_⟩:v=.int .i64 k∧_:=hv 0 0
  refine (h k w).mono fun e w' hh=>?_
  obtain ⟨rfl,hb⟩:=hh
  exact ⟨_,G,rfl,⟨rfl,rfl⟩,hb.size,below_kept hb hb.size,fun b hlt=>⟨hb.block b hlt,rfl,rfl⟩,fun b t ho=>Nat.lt_of_lt_of_le (hG b t ho).2 hb.size⟩
 ·cases hr
end Go.Ev


namespace Go.Ev
def codeP:List Nat→Nat
 | []=>0
 | x :: r=>2 ^ x * (2 * codeP r+1)
theorem pow_odd:∀ (x y a b:Nat),2 ^ x * (2 * a+1)=2 ^ y * (2 * b+1)→x=y∧a=b
 | 0,0,a,b,h=>⟨rfl,by rw [Nat.pow_zero,Nat.one_mul,Nat.one_mul] at h;omega⟩
 | 0,y+1,a,b,h=>by
  rw [Nat.pow_succ,Nat.mul_right_comm] at h
  generalize 2 ^ y * (2 * b+1)=m at h
  omega
 | x+1,0,a,b,h=>by
  rw [Nat.pow_succ,Nat.mul_right_comm] at h
  generalize 2 ^ x * (2 * a+1)=m at h
  omega
 | x+1,y+1,a,b,h=>by
  rw [Nat.pow_succ,Nat.pow_succ,Nat.mul_right_comm,Nat.mul_right_comm (2 ^ y)] at h
  have:=pow_odd x y a b (by omega)
  exact ⟨by omega,this.2⟩
theorem codeP_inj:∀ {p q:List Nat},codeP p=codeP q→p=q
 | [],[],_=>rfl
 | [],y :: q,h=>by
  rw [codeP,codeP] at h
  have:=Nat.mul_pos (Nat.pow_pos (n:=y) (show 0 < 2 by omega)) (show 0 < 2 * codeP q+1 by omega)
  omega
 | x :: p,[],h=>by
  rw [codeP,codeP] at h
  have:=Nat.mul_pos (Nat.pow_pos (n:=x) (show 0 < 2 by omega)) (show 0 < 2 * codeP p+1 by omega)
  omega
 | x :: p,y :: q,h=>by
  rw [codeP,codeP] at h
  obtain ⟨h1,h2⟩:=pow_odd _ _ _ _ h
  rw [h1,codeP_inj h2]
def pk (p:List Nat):Nat:=bigK+codeP p
theorem pk_inj {p q:List Nat} (h:pk p=pk q):p=q:=codeP_inj (by unfold pk at h;omega)
theorem pk_deep (p:List Nat):(pk p=deepK)=False:=by
 rw [eq_iff_iff,iff_false]
 unfold pk bigK deepK
 omega
theorem pk_ge (p:List Nat):bigK≤pk p:=by unfold pk;omega
theorem key_ne {d:Nat} {p q:List Nat} (h:p≠q):((d,pk p):Key)≠(d,pk q):=fun e=>h (pk_inj (Prod.mk.inj e).2)
theorem app_ne {p:List Nat} {j:Nat} {q:List Nat}:p≠p ++ j :: q:=fun h=>by
 have:=congrArg List.length h
 simp at this
theorem fork_ne {p q r:List Nat} {i j:Nat} (h:i≠j):p ++ i :: q≠p ++ j :: r:=fun e=>by
 have:=List.append_cancel_left e
 simp only [List.cons.injEq] at this
 exact h this.1

def szD (n:Nat) (cs:List D):Nat:=if n=0 then 1 else cs.length / n
mutual
def wfD:D→Prop
 | .sc _=>True
 | .sl n cs=>(0 < szD n cs∧cs.length=n * szD n cs)∧wfL cs
def wfL:List D→Prop
 | []=>True
 | c :: cs=>wfD c∧wfL cs
end
def bxC (d:Nat) (p:List Nat):D→C
 | .sc v=>.s v
 | .sl n cs=>.bs (d,pk p) n (szD n cs)
def bxL (d:Nat) (p:List Nat):Nat→List D→List C
 | _,[]=>[]
 | i,c :: cs=>bxC d (p ++ [i]) c :: bxL d p (i+1) cs
mutual
def subD (m:Mem) (d:Nat):List Nat→D→Prop
 | _,.sc _=>True
 | p,.sl _ cs=>m (d,pk p)=some (bxL d p 0 cs)∧subL m d p 0 cs
def subL (m:Mem) (d:Nat):List Nat→Nat→List D→Prop
 | _,_,[]=>True
 | p,i,c :: cs=>subD m d (p ++ [i]) c∧subL m d p (i+1) cs
end
mutual
def thawD (d:Nat):Plc→List Nat→D→List Gho
 | _,_,.sc _=>[]
 | pl,p,.sl n cs=>.thaw pl (pk p) (szD n cs) :: thawL d p 0 cs
def thawL (d:Nat):List Nat→Nat→List D→List Gho
 | _,_,[]=>[]
 | p,i,c :: cs=>thawD d (.mem (d,pk p) i) (p ++ [i]) c ++ thawL d p (i+1) cs
end
mutual
def frzD (d:Nat):Plc→List Nat→D→List Gho
 | _,_,.sc _=>[]
 | pl,p,.sl _ cs=>frzL d p 0 cs ++ [.frz pl]
def frzL (d:Nat):List Nat→Nat→List D→List Gho
 | _,_,[]=>[]
 | p,i,c :: cs=>frzD d (.mem (d,pk p) i) (p ++ [i]) c ++ frzL d p (i+1) cs
end
theorem bxL_length (d:Nat) (p:List Nat):∀ (i:Nat) (cs:List D),(bxL d p i cs).length=cs.length
 | _,[]=>rfl
 | i,c :: cs=>by rw [bxL,List.length_cons,bxL_length d p (i+1) cs,List.length_cons]
theorem bxL_app (d:Nat) (p:List Nat):∀ (cs ds:List D) (i:Nat),bxL d p i (cs ++ ds)=bxL d p i cs ++ bxL d p (i+cs.length) ds
 | [],_,_=>rfl
 | c :: cs,ds,i=>by
  rw [List.cons_append,bxL,bxL,bxL_app d p cs ds (i+1),List.cons_append,List.length_cons]
  congr 3
  omega
theorem subL_app {m:Mem} {d:Nat} {p:List Nat}:∀ {cs ds:List D} {i:Nat},subL m d p i (cs ++ ds) ↔ subL m d p i cs∧subL m d p (i+cs.length) ds
 | [],ds,i=>by simp [subL]
 | c :: cs,ds,i=>by
  rw [List.cons_append,subL,subL,subL_app (cs:=cs),List.length_cons,show i+1+cs.length=i+(cs.length+1) by omega,and_assoc]
theorem wfL_app:∀ {cs ds:List D},wfL (cs ++ ds) ↔ wfL cs∧wfL ds
 | [],ds=>by simp [wfL]
 | c :: cs,ds=>by rw [List.cons_append,wfL,wfL,wfL_app (cs:=cs),and_assoc]

-- what lies in a deep row hangs on the keys of its own paths alone
mutual
theorem subD_congr {m m':Mem} {d:Nat}:∀ {c:D} {p:List Nat},(∀ q,m' (d,pk (p ++ q))=m (d,pk (p ++ q)))→subD m d p c→subD m' d p c
 | .sc _,_,_,_=>by rw [subD];trivial
 | .sl n cs,p,h,hs=>by
  rw [subD] at hs ⊢
  exact ⟨by have:=h [];rw [List.append_nil] at this;rw [this];exact hs.1,subL_congrN (fun j q _ _=>h (j :: q)) hs.2⟩
theorem subL_congrN {m m':Mem} {d:Nat}:∀ {cs:List D} {p:List Nat} {i:Nat},(∀ j q,i≤j→j < i+cs.length→m' (d,pk (p ++ j :: q))=m (d,pk (p ++ j :: q)))→subL m d p i cs→subL m' d p i cs
 | [],_,_,_,_=>by rw [subL];trivial
 | c :: cs,p,i,h,hs=>by
  rw [subL] at hs ⊢
  rw [List.length_cons] at h
  exact ⟨subD_congr (fun q=>by have:=h i q (Nat.le_refl _) (by omega);rwa [show p ++ i :: q=p ++ [i] ++ q by simp] at this) hs.1,subL_congrN (fun j q hj hj2=>h j q (by omega) (by omega)) hs.2⟩
end
theorem subL_congr {m m':Mem} {d:Nat} {cs:List D} {p:List Nat} {i:Nat} (h:∀ j q,i≤j→m' (d,pk (p ++ j :: q))=m (d,pk (p ++ j :: q))) (hs:subL m d p i cs):subL m' d p i cs:=subL_congrN (fun j q hj _=>h j q hj) hs

theorem kill_kill (q1 q2:Key→Bool) (c:C):(c.kill q1).kill q2=c.kill fun k=>q1 k || q2 k:=by
 cases c with
 | ptr k off=>by_cases h1:q1 k=true <;> by_cases h2:q2 k=true <;> simp [C.kill,h1,h2]
 | bs k n sz=>by_cases h1:q1 k=true <;> by_cases h2:q2 k=true <;> simp [C.kill,h1,h2]
 | fn f caps =>
  have:(caps.any fun c=>q1 c.1 || q2 c.1)=(caps.any (fun c=>q1 c.1) || caps.any fun c=>q2 c.1):=by
   induction caps with
   | nil=>rfl
   | cons a r ih=>simp only [List.any_cons,ih];cases q1 a.1 <;> cases q2 a.1 <;> simp
  have e:∀ q:Key→Bool,(C.fn f caps).kill q=if (caps.any fun c=>q c.1)=true then .dead else .fn f caps:=fun q=>rfl
  rw [e q1,e (fun k=>q1 k || q2 k),this]
  cases h1:(caps.any fun c=>q1 c.1) with
  | true=>rfl
  | false=>rw [if_neg (by simp),e q2,Bool.false_or]
 | _=>rfl
theorem akill_kill (q1 q2:Key→Bool) (a:AV):(a.kill q1).kill q2=a.kill fun k=>q1 k || q2 k:=by
 cases a with
 | one c=>simp only [AV.kill,kill_kill]
 | ag cs=>simp only [AV.kill,List.map_map,Function.comp_def,kill_kill]
 | tu vs=>simp only [AV.kill,List.map_map,Function.comp_def,kill_kill]
theorem ofD_kill (q:Key→Bool) (m:Md) (x:D):(C.ofD m x).kill q=C.ofD m x:=by cases x <;> rfl
theorem ofDs_kill (q:Key→Bool) (m:Md) (xs:List D):(xs.map (C.ofD m)).map (C.kill q)=xs.map (C.ofD m):=by
 rw [List.map_map];exact List.map_congr_left fun x _=>ofD_kill q m x
theorem ofD_killB (x:D):(C.ofD .own x).killB=C.ofD .own x:=by cases x <;> rfl
theorem bxC_kill {q:Key→Bool} {d:Nat} {p:List Nat} (h:q (d,pk p)=false) (x:D):(bxC d p x).kill q=bxC d p x:=by
 cases x with
 | sc v=>rfl
 | sl n cs=>simp [bxC,C.kill,h]
theorem bxL_kill {q:Key→Bool} {d:Nat} {p:List Nat}:∀ {cs:List D} {i:Nat},(∀ j,i≤j→q (d,pk (p ++ [j]))=false)→(bxL d p i cs).map (C.kill q)=bxL d p i cs
 | [],_,_=>rfl
 | c :: cs,i,h=>by rw [bxL,List.map_cons,bxC_kill (h i (Nat.le_refl _)),bxL_kill fun j hj=>h j (by omega)]
mutual
theorem subD_kill {q:Key→Bool} {m m':Mem} {d:Nat}:∀ {c:D} {p:List Nat},(∀ r,q (d,pk (p ++ r))=false)→(∀ r,m' (d,pk (p ++ r))=(m (d,pk (p ++ r))).map (List.map (C.kill q)))→subD m d p c→subD m' d p c
 | .sc _,_,_,_,_=>by rw [subD];trivial
 | .sl n cs,p,hq,h,hs=>by
  rw [subD] at hs ⊢
  refine ⟨?_,subL_kill (fun j r _=>hq (j :: r)) (fun j r _=>h (j :: r)) hs.2⟩
  have:=h []
  rw [List.append_nil] at this
  rw [this,hs.1,Option.map_some,bxL_kill fun j _=>hq [j]]
theorem subL_kill {q:Key→Bool} {m m':Mem} {d:Nat}:∀ {cs:List D} {p:List Nat} {i:Nat},(∀ j r,i≤j→q (d,pk (p ++ j :: r))=false)→(∀ j r,i≤j→m' (d,pk (p ++ j :: r))=(m (d,pk (p ++ j :: r))).map (List.map (C.kill q)))→subL m d p i cs→subL m' d p i cs
 | [],_,_,_,_,_=>by rw [subL];trivial
 | c :: cs,p,i,hq,h,hs=>by
  rw [subL] at hs ⊢
  exact ⟨subD_kill (fun r=>by have:=hq i r (Nat.le_refl _);rwa [show p ++ i :: r=p ++ [i] ++ r by simp] at this) (fun r=>by have:=h i r (Nat.le_refl _);rwa [show p ++ i :: r=p ++ [i] ++ r by simp] at this) hs.1,
   subL_kill (fun j r hj=>hq j r (by omega)) (fun j r hj=>h j r (by omega)) hs.2⟩
end

structure KB (σ:St):Prop where
 env:∀ t,(σ.env t).killB=σ.env t
 mem:∀ k cs,σ.mem k=some cs→∀ c∈cs,c.killB=c
theorem map_id_of {cs:List C} {f:C→C} (h:∀ c∈cs,f c=c):cs.map f=cs:=by
 have:=List.map_congr_left (f:=f) (g:=id) (l:=cs) h
 rw [this,List.map_id]
theorem KB.eq {σ:St} (h:KB σ):σ.killB=σ:=by
 cases σ with
 | mk env mem =>
  unfold St.killB
  congr 1
  ·exact funext h.env
  ·funext k
   have hm:=h.mem k
   show (mem k).map (List.map C.killB)=mem k
   cases hk:mem k with
   | none=>rfl
   | some cs=>rw [Option.map_some,map_id_of (hm cs hk)]
theorem ghoLB_app (d:Nat):∀ (l1 l2:List Gho) (σ:St),ghoLB d (l1 ++ l2) σ=(ghoLB d l1 σ).bind (ghoLB d l2)
 | [],_,_=>rfl
 | x :: l1,l2,σ=>by
  rw [List.cons_append,ghoLB,ghoLB]
  cases ghoB d σ x with
  | none=>rfl
  | some σ1=>simp only [Option.bind_some];exact ghoLB_app d l1 l2 σ1
theorem KB.put {σ:St} (h:KB σ) {m:Mem} (hm:∀ k cs,m k=some cs→(σ.mem k=some cs)∨∀ c∈cs,c.killB=c):KB { σ with mem:=m } :=
 ⟨h.env,fun k cs hk=>by
  rcases hm k cs hk with h1 | h1
  ·exact h.mem k cs h1
  ·exact h1⟩
theorem set_mid {α:Type} {pre rest:List α} {a b:α} {i:Nat} (h:pre.length=i):(pre ++ a :: rest).set i b=pre ++ b :: rest:=by
 subst h
 rw [List.set_append_right _ _ (Nat.le_refl _),Nat.sub_self,List.set_cons_zero]
theorem get_mid {α:Type} {pre rest:List α} {a:α} {i:Nat} (h:pre.length=i):(pre ++ a :: rest)[i]?=some a:=by
 subst h
 simp
theorem thaw_one {d i n:Nat} {p:List Nat} {σ:St} {pre rest:List C} {cs:List D} (hK:KB σ) (hi:pre.length=i) (hw:0 < szD n cs∧cs.length=n * szD n cs)
 (hm:σ.mem (d,pk p)=some (pre ++ .l .own n cs :: rest)) (hf:σ.mem (d,pk (p ++ [i]))=none) :
 ∃ σ1,ghoB d σ (.thaw (.mem (d,pk p) i) (pk (p ++ [i])) (szD n cs))=some σ1∧KB σ1∧σ1.env=σ.env∧σ1.mem (d,pk p)=some (pre ++ .bs (d,pk (p ++ [i])) n (szD n cs) :: rest) ∧
  σ1.mem (d,pk (p ++ [i]))=some (cs.map (C.ofD .own))∧∀ k,k≠(d,pk p)→k≠(d,pk (p ++ [i]))→σ1.mem k=σ.mem k:=by
 have hne:((d,pk p):Key)≠(d,pk (p ++ [i])):=key_ne app_ne
 refine ⟨{ σ with mem:=upd (upd σ.mem (d,pk p) (some (pre ++ .bs (d,pk (p ++ [i])) n (szD n cs) :: rest))) (d,pk (p ++ [i])) (some (cs.map (C.ofD .own))) },?_,?_,rfl,?_,?_,?_⟩
 ·simp only [ghoB,Plc.loc,Option.bind_some,Loc.get,hm,get_mid hi,Loc.own?,hf]
  rw [if_pos (by simp [hw.1,pk_deep];exact hw.2)]
  rw [hK.eq]
  simp only [Loc.set,hm,set_mid hi,Md.elem]
 ·refine hK.put fun k c hk=>?_
  have hk':upd (upd σ.mem (d,pk p) (some (pre ++ .bs (d,pk (p ++ [i])) n (szD n cs) :: rest))) (d,pk (p ++ [i])) (some (cs.map (C.ofD .own))) k=some c:=hk
  unfold upd at hk'
  split at hk'
  ·cases hk'
   refine .inr fun x hx=>?_
   obtain ⟨y,_,rfl⟩:=List.mem_map.1 hx
   exact ofD_killB y
  ·split at hk'
   ·cases hk'
    refine .inr fun x hx=>?_
    rcases List.mem_append.1 hx with hx | hx
    ·exact hK.mem _ _ hm x (List.mem_append.2 (.inl hx))
    ·rcases List.mem_cons.1 hx with rfl | hx
     ·rfl
     ·exact hK.mem _ _ hm x (List.mem_append.2 (.inr (List.mem_cons_of_mem _ hx)))
   ·exact .inl hk'
 ·show upd (upd _ _ _) _ _ _=_
  unfold upd
  rw [if_neg hne,if_pos rfl]
 ·show upd (upd _ _ _) _ _ _=_
  unfold upd
  rw [if_pos rfl]
 ·intro k h1 h2
  show upd (upd _ _ _) _ _ _=_
  unfold upd
  rw [if_neg h2,if_neg h1]
mutual
theorem thawD_ok {d:Nat}:∀ (c:D) (p:List Nat) (i:Nat) (σ:St) (pre rest:List C),KB σ→wfD c→pre.length=i→σ.mem (d,pk p)=some (pre ++ C.ofD .own c :: rest)→(∀ q,σ.mem (d,pk (p ++ i :: q))=none) →
 ∃ σ',ghoLB d (thawD d (.mem (d,pk p) i) (p ++ [i]) c) σ=some σ'∧KB σ'∧σ'.env=σ.env∧σ'.mem (d,pk p)=some (pre ++ bxC d (p ++ [i]) c :: rest)∧subD σ'.mem d (p ++ [i]) c ∧
  ∀ k,k≠(d,pk p)→(∀ q,k≠(d,pk (p ++ i :: q)))→σ'.mem k=σ.mem k
 | .sc v,p,i,σ,pre,rest,hK,_,_,hm,_=>⟨σ,by rw [thawD];rfl,hK,rfl,hm,by rw [subD];trivial,fun _ _ _=>rfl⟩
 | .sl n cs,p,i,σ,pre,rest,hK,hw,hi,hm,hf=>by
  rw [wfD] at hw
  obtain ⟨σ1,h1,hK1,he1,hp1,hc1,ho1⟩:=thaw_one hK hi hw.1 hm (hf [])
  obtain ⟨σ2,h2,hK2,he2,hp2,hs2,ho2⟩:=thawL_ok cs (p ++ [i]) 0 σ1 [] hK1 hw.2 rfl hc1 (fun j q _=>by
   rw [ho1 _ (key_ne (by simp)) (key_ne (by simp))]
   have:=hf (j :: q)
   simpa using this)
  refine ⟨σ2,by rw [thawD,ghoLB,h1,Option.bind_some,h2],hK2,he2.trans he1,?_,?_,fun k hk1 hk2=>?_⟩
  ·rw [ho2 _ (key_ne app_ne) (fun j q _=>key_ne (by simp)),hp1]
   rfl
  ·rw [subD]
   exact ⟨by rw [hp2];rfl,hs2⟩
  ·rw [ho2 k (by have:=hk2 [];simpa using this) (fun j q _=>by have:=hk2 (j :: q);simpa using this),ho1 k hk1 (by have:=hk2 [];simpa using this)]
theorem thawL_ok {d:Nat}:∀ (cs:List D) (p:List Nat) (i:Nat) (σ:St) (pre:List C),KB σ→wfL cs→pre.length=i→σ.mem (d,pk p)=some (pre ++ cs.map (C.ofD .own))→(∀ j q,i≤j→σ.mem (d,pk (p ++ j :: q))=none) →
 ∃ σ',ghoLB d (thawL d p i cs) σ=some σ'∧KB σ'∧σ'.env=σ.env∧σ'.mem (d,pk p)=some (pre ++ bxL d p i cs)∧subL σ'.mem d p i cs ∧
  ∀ k,k≠(d,pk p)→(∀ j q,i≤j→k≠(d,pk (p ++ j :: q)))→σ'.mem k=σ.mem k
 | [],p,i,σ,pre,hK,_,_,hm,_=>⟨σ,by rw [thawL];rfl,hK,rfl,hm,by rw [subL];trivial,fun _ _ _=>rfl⟩
 | c :: cs,p,i,σ,pre,hK,hw,hi,hm,hf=>by
  rw [wfL] at hw
  obtain ⟨σ1,h1,hK1,he1,hp1,hs1,ho1⟩:=thawD_ok c p i σ pre (cs.map (C.ofD .own)) hK hw.1 hi hm (fun q=>hf i q (Nat.le_refl _))
  obtain ⟨σ2,h2,hK2,he2,hp2,hs2,ho2⟩:=thawL_ok cs p (i+1) σ1 (pre ++ [bxC d (p ++ [i]) c]) hK1 hw.2 (by simp [hi]) (by rw [hp1];simp) (fun j q hj=>by
   rw [ho1 _ (key_ne fun e=>app_ne e.symm) (fun r=>key_ne (fork_ne (by omega)))]
   exact hf j q (by omega))
  refine ⟨σ2,by rw [thawL,ghoLB_app,h1,Option.bind_some,h2],hK2,he2.trans he1,?_,?_,fun k hk1 hk2=>?_⟩
  ·rw [hp2,bxL];simp
  ·rw [subL]
   refine ⟨subD_congr (fun q=>?_) hs1,hs2⟩
   rw [show p ++ [i] ++ q=p ++ i :: q by simp]
   exact ho2 _ (key_ne fun e=>app_ne e.symm) (fun j r hj=>key_ne (fork_ne (by omega)))
  ·rw [ho2 k hk1 (fun j q hj=>hk2 j q (by omega)),ho1 k hk1 (fun q=>hk2 i q (Nat.le_refl _))]
end

theorem mode_own (cs:List D):modeOf (cs.map (C.ofD .own))=some .own:=by
 unfold modeOf
 rw [if_pos]
 rw [List.all_eq_true]
 intro x hx
 obtain ⟨y,_,rfl⟩:=List.mem_map.1 hx
 exact ownD_ofD y
theorem frz_one {d i n:Nat} {p:List Nat} {σ:St} {pre rest:List C} {cs:List D} (hi:pre.length=i) (hw:0 < szD n cs∧cs.length=n * szD n cs)
 (hm:σ.mem (d,pk p)=some (pre ++ .bs (d,pk (p ++ [i])) n (szD n cs) :: rest)) (hc:σ.mem (d,pk (p ++ [i]))=some (cs.map (C.ofD .own))) :
 ∃ σ1,ghoB d σ (.frz (.mem (d,pk p) i))=some σ1∧(∀ t,σ1.env t=(σ.env t).kill (· == (d,pk (p ++ [i])))) ∧
  σ1.mem (d,pk p)=some (pre.map (C.kill (· == (d,pk (p ++ [i])))) ++ .l .own n cs :: rest.map (C.kill (· == (d,pk (p ++ [i])))))∧σ1.mem (d,pk (p ++ [i]))=none ∧
  ∀ k,k≠(d,pk p)→k≠(d,pk (p ++ [i]))→σ1.mem k=(σ.mem k).map (List.map (C.kill (· == (d,pk (p ++ [i]))))):=by
 have hne:((d,pk p):Key)≠(d,pk (p ++ [i])):=key_ne app_ne
 generalize hkey:((d,pk (p ++ [i])):Key)=key at *
 have hkd:key.1=d:=by rw [← hkey]
 have hmk:(σ.killK key).mem (d,pk p)=some (pre.map (C.kill (· == key)) ++ .dead :: rest.map (C.kill (· == key))):=by
  show memKill (· == key) σ.mem (d,pk p)=_
  unfold memKill
  rw [if_neg (by simpa using hne),hm]
  simp [C.kill]
 refine ⟨{ σ.killK key with mem:=upd (σ.killK key).mem (d,pk p) (some (pre.map (C.kill (· == key)) ++ .l .own n cs :: rest.map (C.kill (· == key)))) },?_,fun t=>rfl,?_,?_,?_⟩
 ·have hlen:(cs.map (C.ofD .own)).length=n * szD n cs:=by rw [List.length_map];exact hw.2
  simp only [ghoB,Plc.loc,Option.bind_some,Loc.get,hm,get_mid hi,hc,List.take_of_length_le (Nat.le_of_eq hlen),mode_own,mapM_ofD]
  rw [if_pos ⟨hkd,hlen,hw.1,by simpa [Loc.notK] using hne⟩]
  simp only [Loc.set,hmk]
  rw [set_mid (by simpa using hi)]
 ·show upd _ _ _ _=_
  unfold upd
  rw [if_pos rfl]
 ·show upd _ _ _ _=_
  unfold upd
  rw [if_neg (fun e=>hne e.symm)]
  show memKill (· == key) σ.mem key=_
  unfold memKill
  rw [if_pos (by simp)]
 ·intro k h1 h2
  show upd _ _ _ _=_
  unfold upd
  rw [if_neg h1]
  show memKill (· == key) σ.mem k=_
  unfold memKill
  rw [if_neg (by simpa using h2)]
theorem mapmap_kill (q1 q2:Key→Bool) (cs:List C):(cs.map (C.kill q1)).map (C.kill q2)=cs.map (C.kill fun k=>q1 k || q2 k):=by
 rw [List.map_map];exact List.map_congr_left fun x _=>kill_kill q1 q2 x
mutual
theorem frzD_ok {d:Nat}:∀ (c:D) (p:List Nat) (i:Nat) (σ:St) (pre rest:List C),wfD c→pre.length=i→σ.mem (d,pk p)=some (pre ++ bxC d (p ++ [i]) c :: rest)→subD σ.mem d (p ++ [i]) c →
 ∃ (σ':St) (q:Key→Bool),ghoLB d (frzD d (.mem (d,pk p) i) (p ++ [i]) c) σ=some σ'∧(∀ k,q k=true→∃ r,k=(d,pk (p ++ i :: r)))∧(∀ t,σ'.env t=(σ.env t).kill q) ∧
  σ'.mem (d,pk p)=some (pre.map (C.kill q) ++ C.ofD .own c :: rest.map (C.kill q))∧(∀ k,q k=true→σ'.mem k=none) ∧
  ∀ k,k≠(d,pk p)→q k=false→σ'.mem k=(σ.mem k).map (List.map (C.kill q))
 | .sc v,p,i,σ,pre,rest,_,hi,hm,_=>⟨σ,fun _=>false,by rw [frzD];rfl,fun k h=>absurd h (by simp),fun t=>by rw [AV.kill_none],by rw [map_kill_none,map_kill_none];exact hm,fun k h=>absurd h (by simp),fun k _ _=>by
  cases hk:σ.mem k with
  | none=>rfl
  | some cs=>rw [Option.map_some,map_kill_none]⟩
 | .sl n cs,p,i,σ,pre,rest,hw,hi,hm,hs=>by
  rw [wfD] at hw
  rw [subD] at hs
  obtain ⟨σ1,q1,h1,hq1,he1,hp1,hn1,ho1⟩:=frzL_ok cs (p ++ [i]) 0 σ [] hw.2 rfl (by rw [hs.1];rfl) hs.2
  have hq0:q1 (d,pk p)=false:=by
   cases hq:q1 (d,pk p) with
   | false=>rfl
   | true=>obtain ⟨j,r,_,e⟩:=hq1 _ hq;exact absurd (pk_inj (Prod.mk.inj e).2) (by simp)
  have hq2:q1 (d,pk (p ++ [i]))=false:=by
   cases hq:q1 (d,pk (p ++ [i])) with
   | false=>rfl
   | true=>obtain ⟨j,r,_,e⟩:=hq1 _ hq;exact absurd (pk_inj (Prod.mk.inj e).2) (by simp)
  have hm1:σ1.mem (d,pk p)=some (pre.map (C.kill q1) ++ .bs (d,pk (p ++ [i])) n (szD n cs) :: rest.map (C.kill q1)):=by
   rw [ho1 _ (key_ne app_ne) hq0,hm,Option.map_some,List.map_append,List.map_cons,bxC_kill hq2]
   rfl
  obtain ⟨σ2,h2,he2,hp2,hn2,ho2⟩:=frz_one (d:=d) (i:=i) (n:=n) (p:=p) (by simpa using hi) hw.1 hm1 (by simpa using hp1)
  refine ⟨σ2,fun k=>q1 k || k == (d,pk (p ++ [i])),by rw [frzD,ghoLB_app,h1,Option.bind_some,ghoLB,h2];rfl,fun k hk=>?_,fun t=>?_,?_,fun k hk=>?_,fun k hk1 hk2=>?_⟩
  ·simp only [Bool.or_eq_true,beq_iff_eq] at hk
   rcases hk with hk | hk
   ·obtain ⟨j,r,_,e⟩:=hq1 k hk
    exact ⟨j :: r,by rw [e];simp⟩
   ·exact ⟨[],hk⟩
  ·rw [he2,he1,akill_kill]
  ·rw [hp2,mapmap_kill,mapmap_kill]
   rfl
  ·simp only [Bool.or_eq_true,beq_iff_eq] at hk
   by_cases hk3:k=(d,pk (p ++ [i]))
   ·rw [hk3];exact hn2
   ·have hk4:=hk.resolve_right hk3
    rw [ho2 k (fun e=>by rw [e] at hk4;rw [hq0] at hk4;cases hk4) hk3,hn1 k hk4];rfl
  ·simp only [Bool.or_eq_false_iff,beq_eq_false_iff_ne] at hk2
   rw [ho2 k hk1 hk2.2,ho1 k hk2.2 hk2.1]
   cases σ.mem k with
   | none=>rfl
   | some c=>simp only [Option.map_some,mapmap_kill]
theorem frzL_ok {d:Nat}:∀ (cs:List D) (p:List Nat) (i:Nat) (σ:St) (pre:List C),wfL cs→pre.length=i→σ.mem (d,pk p)=some (pre ++ bxL d p i cs)→subL σ.mem d p i cs →
 ∃ (σ':St) (q:Key→Bool),ghoLB d (frzL d p i cs) σ=some σ'∧(∀ k,q k=true→∃ j r,i≤j∧k=(d,pk (p ++ j :: r)))∧(∀ t,σ'.env t=(σ.env t).kill q) ∧
  σ'.mem (d,pk p)=some (pre.map (C.kill q) ++ cs.map (C.ofD .own))∧(∀ k,q k=true→σ'.mem k=none) ∧
  ∀ k,k≠(d,pk p)→q k=false→σ'.mem k=(σ.mem k).map (List.map (C.kill q))
 | [],p,i,σ,pre,_,hi,hm,_=>⟨σ,fun _=>false,by rw [frzL];rfl,fun k h=>absurd h (by simp),fun t=>by rw [AV.kill_none],by rw [map_kill_none];exact hm,fun k h=>absurd h (by simp),fun k _ _=>by
  cases hk:σ.mem k with
  | none=>rfl
  | some cs=>rw [Option.map_some,map_kill_none]⟩
 | c :: cs,p,i,σ,pre,hw,hi,hm,hs=>by
  rw [wfL] at hw
  rw [subL] at hs
  obtain ⟨σ1,q1,h1,hq1,he1,hp1,hn1,ho1⟩:=frzD_ok c p i σ pre (bxL d p (i+1) cs) hw.1 hi hm hs.1
  have hqt:∀ j r,i+1≤j→q1 (d,pk (p ++ j :: r))=false:=fun j r hj=>by
   cases hq:q1 (d,pk (p ++ j :: r)) with
   | false=>rfl
   | true=>obtain ⟨r',e⟩:=hq1 _ hq;exact absurd (pk_inj (Prod.mk.inj e).2) (fork_ne (by omega))
  have hq0:q1 (d,pk p)=false:=by
   cases hq:q1 (d,pk p) with
   | false=>rfl
   | true=>obtain ⟨r,e⟩:=hq1 _ hq;exact absurd (pk_inj (Prod.mk.inj e).2) app_ne
  obtain ⟨σ2,q2,h2,hq2,he2,hp2,hn2,ho2⟩:=frzL_ok cs p (i+1) σ1 (pre.map (C.kill q1) ++ [C.ofD .own c]) hw.2 (by simp [hi])
   (by rw [hp1,bxL_kill fun j hj=>hqt j [] hj];simp)
   (subL_kill (fun j r hj=>hqt j r hj) (fun j r hj=>ho1 _ (key_ne fun e=>app_ne e.symm) (hqt j r hj)) hs.2)
  refine ⟨σ2,fun k=>q1 k || q2 k,by rw [frzL,ghoLB_app,h1,Option.bind_some,h2],fun k hk=>?_,fun t=>?_,?_,fun k hk=>?_,fun k hk1 hk2=>?_⟩
  ·simp only [Bool.or_eq_true] at hk
   rcases hk with hk | hk
   ·obtain ⟨r,e⟩:=hq1 k hk;exact ⟨i,r,Nat.le_refl _,e⟩
   ·obtain ⟨j,r,hj,e⟩:=hq2 k hk;exact ⟨j,r,by omega,e⟩
  ·rw [he2,he1,akill_kill]
  ·rw [hp2,List.map_append,mapmap_kill,List.map_cons,List.map_nil,ofD_kill];simp
  ·simp only [Bool.or_eq_true] at hk
   cases hk2:q2 k with
   | true=>exact hn2 k hk2
   | false =>
    have hk1:=hk.resolve_right (by simp [hk2])
    rw [ho2 k (fun e=>by rw [e] at hk1;rw [hq0] at hk1;cases hk1) hk2,hn1 k hk1];rfl
  ·simp only [Bool.or_eq_false_iff] at hk2
   rw [ho2 k hk1 hk2.2,ho1 k hk1 hk2.1]
   cases σ.mem k with
   | none=>rfl
   | some c=>simp only [Option.map_some,mapmap_kill]
end
end Go.Ev


namespace Go.Ev
def thawA (d t:Nat):Nat→List D→List Gho
 | _,[]=>[]
 | i,c :: cs=>thawD d (.sl t i) [i] c ++ thawA d t (i+1) cs
def frzA (d t:Nat):Nat→List D→List Gho
 | _,[]=>[]
 | i,c :: cs=>frzD d (.sl t i) [i] c ++ frzA d t (i+1) cs
def cellsOf:AV→List C
 | .one c=>[c]
 | .ag cs=>cs
 | .tu _=>[]
theorem likeA_get {v:AV} {cs:List C} (h:cellsOf v=cs) {σ:St} {t i:Nat} (he:σ.env t=v):(Loc.env t i).get σ=cs[i]?:=by
 subst h
 subst he
 simp only [Loc.get]
 cases σ.env t with
 | one c=>cases i <;> simp [cellsOf]
 | ag cs=>rfl
 | tu l=>rfl
def sameF:AV→AV→Prop
 | .one _,.one _=>True
 | .ag a,.ag b=>a.length=b.length
 | _,_=>False
theorem set_slot {σ:St} {t i:Nat} {v:AV} {c:C} (he:σ.env t=v) (hv:∀ l,v≠.tu l) (hi:i < (cellsOf v).length):∃ v',Loc.set σ c (.env t i)={ σ with env:=upd σ.env t v' }∧cellsOf v'=(cellsOf v).set i c∧sameF v v':=by
 cases v with
 | one x =>
  refine ⟨.one c,by simp only [Loc.set,he],?_,trivial⟩
  have:i=0:=by simp only [cellsOf,List.length_singleton] at hi;omega
  subst this
  rfl
 | ag cs=>exact ⟨.ag (cs.set i c),by simp only [Loc.set,he],rfl,by simp [sameF]⟩
 | tu l=>exact absurd rfl (hv l)
theorem sameF_tu {v v':AV} (h:sameF v v'):∀ l,v'≠.tu l:=by
 intro l e
 subst e
 cases v <;> exact h
theorem sameF_trans {a b c:AV} (h1:sameF a b) (h2:sameF b c):sameF a c:=by
 cases a <;> cases b <;> cases c <;> simp_all [sameF]
theorem thaw_slot1 {d t i n:Nat} {σ:St} {pre rest:List C} {cs:List D} {v:AV} (hK:KB σ) (hi:pre.length=i) (hw:0 < szD n cs∧cs.length=n * szD n cs)
 (hv:∀ l,v≠.tu l) (he:σ.env t=v) (hm:cellsOf v=pre ++ .l .own n cs :: rest) (hf:σ.mem (d,pk [i])=none) :
 ∃ σ1 v',ghoB d σ (.thaw (.sl t i) (pk [i]) (szD n cs))=some σ1∧KB σ1∧σ1.env t=v'∧sameF v v'∧cellsOf v'=pre ++ .bs (d,pk [i]) n (szD n cs) :: rest∧(∀ t',t'≠t→σ1.env t'=σ.env t') ∧
  σ1.mem (d,pk [i])=some (cs.map (C.ofD .own))∧∀ k,k≠(d,pk [i])→σ1.mem k=σ.mem k:=by
 obtain ⟨v',hs,hc,hsf⟩:=set_slot (c:=.bs (d,pk [i]) n (szD n cs)) (i:=i) he hv (by rw [hm];simp;omega)
 rw [hm,set_mid hi] at hc
 refine ⟨{ env:=upd σ.env t v',mem:=upd σ.mem (d,pk [i]) (some (cs.map (C.ofD .own))) },v',?_,⟨fun t'=>?_,fun k c hk=>?_⟩,?_,hsf,hc,fun t' ht=>?_,?_,fun k hk=>?_⟩
 ·simp only [ghoB,Plc.loc,Option.bind_some]
  rw [likeA_get hm he,get_mid hi]
  simp only [Option.bind_some,Loc.own?,hf]
  rw [if_pos (by simp [hw.1,pk_deep];exact hw.2),hK.eq,hs]
  rfl
 ·show (upd σ.env t v' t').killB=upd σ.env t v' t'
  unfold upd
  split
  ·have hall:∀ x∈cellsOf v',x.killB=x:=by
    intro x hx
    rw [hc] at hx
    have hkv:=hK.env t
    rw [he] at hkv
    have hold:∀ x∈cellsOf v,x.killB=x:=by
     intro x hx
     cases v with
     | one c=>simp only [cellsOf,List.mem_singleton] at hx;subst hx;simpa [AV.killB] using hkv
     | ag cs =>
      have h1:cs.map C.killB=cs:=by simpa [AV.killB] using hkv
      obtain ⟨j,hj,rfl⟩:=List.mem_iff_getElem.1 hx
      have:=congrArg (fun l=>l[j]?) h1
      simp only [List.getElem?_map] at this
      have hj':j < cs.length:=hj
      rw [List.getElem?_eq_getElem hj'] at this
      simpa [cellsOf] using this
     | tu l=>simp [cellsOf] at hx
    rw [hm] at hold
    rcases List.mem_append.1 hx with hx | hx
    ·exact hold x (List.mem_append.2 (.inl hx))
    ·rcases List.mem_cons.1 hx with rfl | hx
     ·rfl
     ·exact hold x (List.mem_append.2 (.inr (List.mem_cons_of_mem _ hx)))
   cases v' with
   | one c=>simp only [AV.killB];rw [hall c (by simp [cellsOf])]
   | ag cs=>simp only [AV.killB];rw [map_id_of (by simpa [cellsOf] using hall)]
   | tu l=>exact absurd rfl (sameF_tu hsf l)
  ·exact hK.env t'
 ·have hk':upd σ.mem (d,pk [i]) (some (cs.map (C.ofD .own))) k=some c:=hk
  unfold upd at hk'
  split at hk'
  ·cases hk'
   intro x hx
   obtain ⟨y,_,rfl⟩:=List.mem_map.1 hx
   exact ofD_killB y
  ·exact hK.mem k c hk'
 ·show upd _ _ _ _=_
  unfold upd;rw [if_pos rfl]
 ·show upd _ _ _ _=_
  unfold upd;rw [if_neg ht]
 ·show upd _ _ _ _=_
  unfold upd;rw [if_pos rfl]
 ·show upd _ _ _ _=_
  unfold upd;rw [if_neg hk]
theorem thawA_ok {d t:Nat}:∀ (cs:List D) (i:Nat) (σ:St) (pre:List C) (v:AV),KB σ→wfL cs→pre.length=i→(∀ l,v≠.tu l)→σ.env t=v→cellsOf v=pre ++ cs.map (C.ofD .own)→(∀ j q,i≤j→σ.mem (d,pk (j :: q))=none) →
 ∃ σ' v',ghoLB d (thawA d t i cs) σ=some σ'∧KB σ'∧σ'.env t=v'∧sameF v v'∧cellsOf v'=pre ++ bxL d [] i cs∧(∀ t',t'≠t→σ'.env t'=σ.env t')∧subL σ'.mem d [] i cs ∧
  ∀ k,(∀ j q,i≤j→k≠(d,pk (j :: q)))→σ'.mem k=σ.mem k
 | [],i,σ,pre,v,hK,_,_,hv,he,hm,_=>⟨σ,v,rfl,hK,he,by cases v <;> simp_all [sameF],hm,fun _ _=>rfl,by rw [subL];trivial,fun _ _=>rfl⟩
 | .sc x :: cs,i,σ,pre,v,hK,hw,hi,hv,he,hm,hf=>by
  rw [wfL] at hw
  obtain ⟨σ2,v2,h2,hK2,he2,hs2,hc2,ht2,hsub,ho⟩:=thawA_ok cs (i+1) σ (pre ++ [.s x]) v hK hw.2 (by simp [hi]) hv he (by rw [hm];simp [C.ofD]) (fun j q hj=>hf j q (by omega))
  exact ⟨σ2,v2,by rw [thawA,thawD];exact h2,hK2,he2,hs2,by rw [hc2,bxL];simp [bxC],ht2,by rw [subL,subD];exact ⟨trivial,hsub⟩,fun k hk=>ho k fun j q hj=>hk j q (by omega)⟩
 | .sl n ds :: cs,i,σ,pre,v,hK,hw,hi,hv,he,hm,hf=>by
  rw [wfL,wfD] at hw
  obtain ⟨σ1,v1,h1,hK1,he1,hs1,hc1,ht1,hb1,ho1⟩:=thaw_slot1 (d:=d) hK hi hw.1.1 hv he (by rw [hm];rfl) (hf i [] (Nat.le_refl _))
  obtain ⟨σ2,h2,hK2,he2,hp2,hsub2,ho2⟩:=thawL_ok (d:=d) ds [i] 0 σ1 [] hK1 hw.1.2 rfl hb1 (fun j q _=>by rw [ho1 _ (key_ne (by simp))];exact hf i (j :: q) (Nat.le_refl _))
  obtain ⟨σ3,v3,h3,hK3,he3,hs3,hc3,ht3,hsub3,ho3⟩:=thawA_ok cs (i+1) σ2 (pre ++ [.bs (d,pk [i]) n (szD n ds)]) v1 hK2 hw.2 (by simp [hi]) (sameF_tu hs1) (by rw [he2];exact he1) (by rw [hc1];simp) (fun j q hj=>by
   rw [ho2 _ (key_ne (by simp;omega)) (fun j' q' _=>key_ne (by simp;omega)),ho1 _ (key_ne (by simp;omega))]
   exact hf j q (by omega))
  refine ⟨σ3,v3,?_,hK3,he3,sameF_trans hs1 hs3,by rw [hc3,bxL];simp [bxC],fun t' ht=>by rw [ht3 t' ht,he2,ht1 t' ht],?_,fun k hk=>?_⟩
  ·rw [thawA,thawD,List.cons_append,ghoLB,h1,Option.bind_some,ghoLB_app,h2,Option.bind_some,h3]
  ·rw [subL,subD]
   refine ⟨⟨?_,subL_congr (fun j q _=>?_) hsub2⟩,hsub3⟩
   ·rw [List.nil_append,ho3 _ (fun j q hj=>key_ne (by simp;omega)),hp2];rfl
   ·exact ho3 _ (fun j' q' hj=>key_ne (by simp;omega))
  ·rw [ho3 k (fun j q hj=>hk j q (by omega)),ho2 k (by have:=hk i [] (Nat.le_refl _);simpa using this) (fun j q _=>by have:=hk i (j :: q) (Nat.le_refl _);simpa using this),ho1 k (hk i [] (Nat.le_refl _))]

theorem cells_kill (v:AV) (q:Key→Bool):cellsOf (v.kill q)=(cellsOf v).map (C.kill q):=by cases v <;> rfl
theorem sameF_kill {v:AV} (hv:∀ l,v≠.tu l) (q:Key→Bool):sameF v (v.kill q):=by
 cases v with
 | one c=>trivial
 | ag cs=>simp [sameF,AV.kill]
 | tu l=>exact absurd rfl (hv l)
theorem frz_slot1 {d t i n:Nat} {σ:St} {pre rest:List C} {cs:List D} {v:AV} (hi:pre.length=i) (hw:0 < szD n cs∧cs.length=n * szD n cs) (hv:∀ l,v≠.tu l) (he:σ.env t=v)
 (hm:cellsOf v=pre ++ .bs (d,pk [i]) n (szD n cs) :: rest) (hc:σ.mem (d,pk [i])=some (cs.map (C.ofD .own))) :
 ∃ σ1 v',ghoB d σ (.frz (.sl t i))=some σ1∧σ1.env t=v'∧sameF v v'∧cellsOf v'=pre.map (C.kill (· == (d,pk [i]))) ++ .l .own n cs :: rest.map (C.kill (· == (d,pk [i]))) ∧
  (∀ t',t'≠t→σ1.env t'=(σ.env t').kill (· == (d,pk [i])))∧σ1.mem (d,pk [i])=none∧∀ k,k≠(d,pk [i])→σ1.mem k=(σ.mem k).map (List.map (C.kill (· == (d,pk [i])))):=by
 generalize hkey:((d,pk [i]):Key)=key at *
 have hkd:key.1=d:=by rw [← hkey]
 have hck:cellsOf (v.kill (· == key))=pre.map (C.kill (· == key)) ++ .dead :: rest.map (C.kill (· == key)):=by
  rw [cells_kill,hm,List.map_append,List.map_cons]
  simp [C.kill]
 have hek:(σ.killK key).env t=v.kill (· == key):=by
  show (σ.env t).kill _=_
  rw [he]
 have hvk:=sameF_tu (sameF_kill hv (· == key))
 obtain ⟨v',hs,hc',hsf⟩:=set_slot (c:=.l .own n cs) (i:=i) hek hvk (by rw [hck];simp;omega)
 rw [hck,set_mid (by simpa using hi)] at hc'
 refine ⟨{ σ.killK key with env:=upd (σ.killK key).env t v' },v',?_,?_,sameF_trans (sameF_kill hv _) hsf,hc',fun t' ht=>?_,?_,fun k hk=>?_⟩
 ·have hlen:(cs.map (C.ofD .own)).length=n * szD n cs:=by rw [List.length_map];exact hw.2
  simp only [ghoB,Plc.loc,Option.bind_some]
  rw [likeA_get hm he,get_mid hi]
  simp only [Option.bind_some,hc,List.take_of_length_le (Nat.le_of_eq hlen),mode_own,mapM_ofD]
  rw [if_pos ⟨hkd,hlen,hw.1,rfl⟩,hs]
 ·show upd _ _ _ _=_
  unfold upd;rw [if_pos rfl]
 ·show upd _ _ _ _=_
  unfold upd;rw [if_neg ht];rfl
 ·show memKill (· == key) σ.mem key=_
  unfold memKill;rw [if_pos (by simp)]
 ·show memKill (· == key) σ.mem k=_
  unfold memKill;rw [if_neg (by simpa using hk)]
theorem frzA_ok {d t:Nat}:∀ (cs:List D) (i:Nat) (σ:St) (pre:List C) (v:AV),wfL cs→pre.length=i→(∀ l,v≠.tu l)→σ.env t=v→cellsOf v=pre ++ bxL d [] i cs→subL σ.mem d [] i cs →
 ∃ (σ':St) (v':AV) (q:Key→Bool),ghoLB d (frzA d t i cs) σ=some σ'∧(∀ k,q k=true→∃ j r,i≤j∧k=(d,pk (j :: r)))∧σ'.env t=v'∧sameF v v'∧cellsOf v'=pre.map (C.kill q) ++ cs.map (C.ofD .own) ∧
  (∀ t',t'≠t→σ'.env t'=(σ.env t').kill q)∧(∀ k,q k=true→σ'.mem k=none)∧∀ k,q k=false→σ'.mem k=(σ.mem k).map (List.map (C.kill q))
 | [],i,σ,pre,v,_,_,hv,he,hm,_=>⟨σ,v,fun _=>false,rfl,fun k h=>absurd h (by simp),he,by cases v <;> simp_all [sameF],by rw [map_kill_none];exact hm,fun t' _=>by rw [AV.kill_none],fun k h=>absurd h (by simp),fun k _=>by
  cases hk:σ.mem k with
  | none=>rfl
  | some cs=>rw [Option.map_some,map_kill_none]⟩
 | .sc x :: cs,i,σ,pre,v,hw,hi,hv,he,hm,hs=>by
  rw [wfL] at hw
  rw [subL] at hs
  obtain ⟨σ2,v2,q,h2,hq,he2,hs2,hc2,ht2,hn2,ho2⟩:=frzA_ok (d:=d) cs (i+1) σ (pre ++ [.s x]) v hw.2 (by simp [hi]) hv he (by rw [hm,bxL];simp [bxC]) hs.2
  exact ⟨σ2,v2,q,by rw [frzA,frzD];exact h2,fun k hk=>by obtain ⟨j,r,hj,e⟩:=hq k hk;exact ⟨j,r,by omega,e⟩,he2,hs2,by rw [hc2];simp [C.kill,C.ofD],ht2,hn2,ho2⟩
 | .sl n ds :: cs,i,σ,pre,v,hw,hi,hv,he,hm,hs=>by
  rw [wfL,wfD] at hw
  rw [subL,subD,List.nil_append] at hs
  obtain ⟨σ1,q1,h1,hq1,he1,hp1,hn1,ho1⟩:=frzL_ok (d:=d) ds [i] 0 σ [] hw.1.2 rfl (by rw [hs.1.1];rfl) hs.1.2
  have hq0:∀ j r,i+1≤j→q1 (d,pk (j :: r))=false:=fun j r hj=>by
   cases hq:q1 (d,pk (j :: r)) with
   | false=>rfl
   | true =>
    obtain ⟨j',r',_,e⟩:=hq1 _ hq
    have:=pk_inj (Prod.mk.inj e).2
    simp at this
    omega
  have hqi:q1 (d,pk [i])=false:=by
   cases hq:q1 (d,pk [i]) with
   | false=>rfl
   | true =>
    obtain ⟨j',r',_,e⟩:=hq1 _ hq
    have:=pk_inj (Prod.mk.inj e).2
    simp at this
  have hv1:=sameF_kill hv q1
  have hm1:cellsOf (v.kill q1)=pre.map (C.kill q1) ++ .bs (d,pk [i]) n (szD n ds) :: bxL d [] (i+1) cs:=by
   rw [cells_kill,hm,bxL,List.map_append,List.map_cons,List.nil_append,bxC_kill hqi,bxL_kill fun j hj=>hq0 j [] hj]
   rfl
  obtain ⟨σ2,v2,h2,he2,hs2,hc2,ht2,hn2,ho2⟩:=frz_slot1 (d:=d) (t:=t) (i:=i) (n:=n) (by simpa using hi) hw.1.1 (sameF_tu hv1) (by rw [he1 t,he]) hm1 (by simpa using hp1)
  have hqk:∀ j r,i+1≤j→((d,pk (j :: r)) == ((d,pk [i]):Key))=false:=fun j r hj=>by
   rw [beq_eq_false_iff_ne]
   exact key_ne (by simp;omega)
  obtain ⟨σ3,v3,q3,h3,hq3,he3,hs3,hc3,ht3,hn3,ho3⟩:=frzA_ok (d:=d) cs (i+1) σ2 ((pre.map (C.kill q1)).map (C.kill (· == (d,pk [i]))) ++ [.l .own n ds]) v2 hw.2 (by simp [hi]) (sameF_tu hs2) he2
   (by rw [hc2,bxL_kill fun j hj=>by simpa using hqk j [] hj];simp)
   (subL_kill (q:=(· == (d,pk [i]))) (fun j r hj=>hqk j r hj) (fun j r hj=>ho2 _ (key_ne (by simp;omega)))
    (subL_kill (q:=q1) (fun j r hj=>hq0 j r hj) (fun j r hj=>ho1 _ (key_ne (by simp;omega)) (hq0 j r hj)) hs.2))
  refine ⟨σ3,v3,fun k=>(q1 k || k == (d,pk [i])) || q3 k,?_,fun k hk=>?_,he3,sameF_trans hv1 (sameF_trans hs2 hs3),?_,fun t' ht=>?_,fun k hk=>?_,fun k hk=>?_⟩
  ·rw [frzA,frzD,ghoLB_app,ghoLB_app,h1,Option.bind_some,ghoLB,h2]
   exact h3
  ·simp only [Bool.or_eq_true,beq_iff_eq] at hk
   rcases hk with (hk | hk) | hk
   ·obtain ⟨j,r,_,e⟩:=hq1 k hk;exact ⟨i,j :: r,Nat.le_refl _,by rw [e];rfl⟩
   ·exact ⟨i,[],Nat.le_refl _,hk⟩
   ·obtain ⟨j,r,hj,e⟩:=hq3 k hk;exact ⟨j,r,by omega,e⟩
  ·rw [hc3,List.map_append,mapmap_kill,mapmap_kill,List.map_cons,List.map_nil,List.append_assoc]
   simp only [Bool.or_assoc]
   rfl
  ·rw [ht3 t' ht,ht2 t' ht,he1,akill_kill,akill_kill]
   congr 1
   funext k
   rw [Bool.or_assoc]
  ·simp only [Bool.or_eq_true,beq_iff_eq] at hk
   cases hk3:q3 k with
   | true=>exact hn3 k hk3
   | false =>
    rw [ho3 k hk3]
    rcases hk.resolve_right (by simp [hk3]) with hk1 | hk1
    ·by_cases hki:k=(d,pk [i])
     ·rw [hki,hn2];rfl
     ·rw [ho2 k hki,hn1 k hk1];rfl
    ·rw [hk1,hn2];rfl
  ·simp only [Bool.or_eq_false_iff,beq_eq_false_iff_ne] at hk
   rw [ho3 k hk.2,ho2 k hk.1.2,ho1 k (by simpa using hk.1.2) hk.1.1]
   cases σ.mem k with
   | none=>rfl
   | some c=>simp only [Option.map_some,mapmap_kill]
end Go.Ev


namespace Go.Ev
mutual
theorem subD_uniq {m:Mem} {d:Nat}:∀ {c c':D} {p:List Nat},bxC d p c=bxC d p c'→subD m d p c→subD m d p c'→c=c'
 | .sc v,.sc v',p,h,_,_=>by simp only [bxC,C.s.injEq] at h;rw [h]
 | .sc v,.sl n cs,p,h,_,_=>by simp [bxC] at h
 | .sl n cs,.sc v,p,h,_,_=>by simp [bxC] at h
 | .sl n cs,.sl n' cs',p,h,h1,h2=>by
  rw [subD] at h1 h2
  simp only [bxC,C.bs.injEq] at h
  have he:bxL d p 0 cs=bxL d p 0 cs':=Option.some.inj (h1.1.symm.trans h2.1)
  rw [subL_uniq he h1.2 h2.2,h.2.1]
theorem subL_uniq {m:Mem} {d:Nat}:∀ {cs cs':List D} {p:List Nat} {i:Nat},bxL d p i cs=bxL d p i cs'→subL m d p i cs→subL m d p i cs'→cs=cs'
 | [],[],_,_,_,_,_=>rfl
 | [],_ :: _,_,_,h,_,_=>by simp [bxL] at h
 | _ :: _,[],_,_,h,_,_=>by simp [bxL] at h
 | c :: cs,c' :: cs',p,i,h,h1,h2=>by
  rw [bxL,bxL,List.cons.injEq] at h
  rw [subL] at h1 h2
  rw [subD_uniq h.1 h1.1 h2.1,subL_uniq h.2 h1.2 h2.2]
end
def thawSlot (d x:Nat):St→List Gho:=fun σ=>.calm :: (thawA d x 0 (((cellsOf (σ.env x)).mapM C.toD).getD []) ++ [.drop fun k=>decide (d < k.1)])
open Classical in
def frzSlot (d x:Nat):St→List Gho:=fun σ=>if h:∃ cs,wfL cs∧cellsOf (σ.env x)=bxL d [] 0 cs∧subL σ.mem d [] 0 cs then frzA d x 0 (Classical.choose h) ++ [.drop fun k=>k.1 == d && decide (bigK≤k.2)] else []
theorem killB_killB (c:C):c.killB.killB=c.killB:=by
 cases c with
 | l m n cs=>cases m <;> rfl
 | _=>rfl
theorem akillB_killB (v:AV):v.killB.killB=v.killB:=by
 cases v with
 | one c=>simp only [AV.killB,killB_killB]
 | ag cs=>simp only [AV.killB,List.map_map,Function.comp_def,killB_killB]
 | tu l=>simp only [AV.killB,List.map_map,Function.comp_def,killB_killB]
theorem KB_killB (σ:St):KB σ.killB:=⟨fun t=>akillB_killB _,fun k cs hk c hc=>by
 have hk':(σ.mem k).map (List.map C.killB)=some cs:=hk
 rw [Option.map_eq_some_iff] at hk'
 obtain ⟨cs0,_,rfl⟩:=hk'
 obtain ⟨y,_,rfl⟩:=List.mem_map.1 hc
 exact killB_killB y⟩
def deepQ (d:Nat):Key→Bool:=fun k=>decide (d < k.1)
theorem memKill_idem (p:Key→Bool) (m:Mem):memKill p (memKill p m)=memKill p m:=by
 funext k
 unfold memKill
 cases hp:p k with
 | true=>simp
 | false =>
  simp only [Bool.false_eq_true,if_false]
  cases m k with
  | none=>rfl
  | some cs=>simp only [Option.map_some,mapmap_kill,Bool.or_self]
theorem thawSlot_ok {d x:Nat} {σ:St} {cs:List D} {v:AV} (hx:σ.env x=v) (hv:∀ l,v≠.tu l) (hc:cellsOf v=cs.map (C.ofD .own)) (hw:wfL cs) (hN:∀ k:Key,bigK≤k.2→σ.mem k=none) :
 ∃ σ1 v1,ghoLB d (thawSlot d x σ) σ=some σ1∧σ1.env x=v1∧sameF v v1∧cellsOf v1=bxL d [] 0 cs∧(∀ t,t≠x→σ1.env t=((σ.env t).killB).kill (deepQ d))∧subL σ1.mem d [] 0 cs∧memKill (deepQ d) σ1.mem=σ1.mem ∧
  (∀ k,(∀ j q,k≠(d,pk (j :: q)))→σ1.mem k=memKill (deepQ d) (fun k=>(σ.mem k).map (List.map C.killB)) k):=by
 have hcells:((cellsOf (σ.env x)).mapM C.toD).getD []=cs:=by rw [hx,hc,mapM_ofD];rfl
 have hvk:cellsOf v.killB=[] ++ cs.map (C.ofD .own):=by
  have:cellsOf v.killB=(cellsOf v).map C.killB:=by cases v <;> rfl
  rw [this,hc,List.map_map]
  exact List.map_congr_left fun y _=>ofD_killB y
 have hvt:∀ l,v.killB≠.tu l:=by cases v <;> simp [AV.killB] at hv ⊢
 have hsf:sameF v v.killB:=by cases v <;> simp [sameF,AV.killB] at hv ⊢
 obtain ⟨σ1,v1,h1,_,he1,hs1,hc1,ht1,hsub,ho⟩:=thawA_ok (d:=d) (t:=x) cs 0 σ.killB [] v.killB (KB_killB σ) hw rfl hvt (by show (σ.env x).killB=_;rw [hx]) hvk
  (fun j q _=>by
   show (σ.mem _).map _=none
   rw [hN _ (pk_ge _)]
   rfl)
 have hpq:(fun k:Key=>decide (d≤k.1) && decide (d < k.1))=deepQ d:=by
  funext k
  unfold deepQ
  by_cases h:d < k.1
  ·simp [h];omega
  ·simp [h]
 have hkd:∀ p:List Nat,deepQ d (d,pk p)=false:=fun p=>by simp [deepQ]
 refine ⟨{ env:=fun t=>(σ1.env t).kill (deepQ d),mem:=memKill (deepQ d) σ1.mem },v1.kill (deepQ d),?_,?_,sameF_trans (sameF_trans hsf hs1) (sameF_kill (sameF_tu hs1) _),?_,fun t ht=>?_,?_,memKill_idem _ _,fun k hk=>?_⟩
 ·unfold thawSlot
  rw [hcells,ghoLB]
  show ghoLB d _ σ.killB=_
  rw [ghoLB_app,h1,Option.bind_some,ghoLB]
  show (ghoB d σ1 _).bind _=_
  simp only [ghoB,hpq]
  rfl
 ·show (σ1.env x).kill _=_
  rw [he1]
 ·rw [cells_kill,hc1]
  exact bxL_kill fun j _=>hkd _
 ·show (σ1.env t).kill _=_
  rw [ht1 t ht]
  rfl
 ·exact subL_kill (q:=deepQ d) (fun j r _=>hkd _) (fun j r _=>by
   show memKill (deepQ d) σ1.mem _=_
   unfold memKill
   rw [if_neg (by simp [hkd])]) hsub
 ·show memKill (deepQ d) σ1.mem k=_
  unfold memKill
  rw [ho k fun j q _=>hk j q]
  rfl
theorem frzSlot_ok {d x:Nat} {σ:St} {cs:List D} {v:AV} (hx:σ.env x=v) (hv:∀ l,v≠.tu l) (hc:cellsOf v=bxL d [] 0 cs) (hw:wfL cs) (hs:subL σ.mem d [] 0 cs) :
 ∃ (σ':St) (v':AV) (q:Key→Bool),ghoLB d (frzSlot d x σ) σ=some σ'∧(∀ k,q k=true→bigK≤k.2)∧σ'.env x=v'∧sameF v v'∧cellsOf v'=cs.map (C.ofD .own) ∧
  (∀ t',t'≠x→σ'.env t'=(σ.env t').kill q)∧(∀ k:Key,k.1=d→bigK≤k.2→σ'.mem k=none)∧(∀ k,q k=true→σ'.mem k=none)∧∀ k,q k=false→σ'.mem k=(σ.mem k).map (List.map (C.kill q)):=by
 have h:∃ cs,wfL cs∧cellsOf (σ.env x)=bxL d [] 0 cs∧subL σ.mem d [] 0 cs:=⟨cs,hw,by rw [hx];exact hc,hs⟩
 have hun:Classical.choose h=cs:=by
  have hsp:=(Classical.choose_spec h).2
  exact (subL_uniq ((congrArg cellsOf hx).symm.trans hsp.1 |>.symm.trans hc |>.symm) hs hsp.2).symm
 obtain ⟨σ',v',q,h1,hq,he,hsf,hc',ht,hn,ho⟩:=frzA_ok (d:=d) (t:=x) cs 0 σ [] v hw rfl hv hx hc hs
 have hqb:∀ k,q k=true→k.1=d∧bigK≤k.2:=fun k hk=>by
  obtain ⟨j,r,_,e⟩:=hq k hk
  rw [e]
  exact ⟨rfl,pk_ge _⟩
 let p:Key→Bool:=fun k=>k.1 == d && decide (bigK≤k.2)
 have hqp:(fun k=>q k || p k)=p:=by
  funext k
  cases hqk:q k with
  | false=>rfl
  | true =>
   obtain ⟨a,b⟩:=hqb k hqk
   simp [p,a,b]
 refine ⟨{ env:=fun t=>(σ'.env t).kill p,mem:=memKill p σ'.mem },v'.kill p,p,?_,fun k hk=>?_,?_,?_,?_,fun t' ht'=>?_,fun k hk1 hk2=>?_,fun k hk=>?_,fun k hk=>?_⟩
 ·unfold frzSlot
  rw [dif_pos h,hun,ghoLB_app,h1,Option.bind_some,ghoLB]
  have hpq:(fun k:Key=>decide (d≤k.1) && (k.1 == d && decide (bigK≤k.2)))=p:=by
   funext k
   simp only [p]
   by_cases h:k.1=d
   ·simp [h]
   ·simp [h]
  simp only [ghoB,hpq]
  rfl
 ·simp only [p,Bool.and_eq_true,decide_eq_true_eq] at hk
  exact hk.2
 ·show (σ'.env x).kill p=_
  rw [he]
 ·exact sameF_trans hsf (sameF_kill (sameF_tu hsf) p)
 ·rw [cells_kill,hc']
  simp only [List.nil_append,List.map_nil]
  exact ofDs_kill ..
 ·show (σ'.env t').kill p=_
  rw [ht t' ht',akill_kill,hqp]
 ·show memKill p σ'.mem k=none
  unfold memKill
  rw [if_pos (by simp [p,hk1,hk2])]
 ·show memKill p σ'.mem k=none
  unfold memKill
  rw [if_pos hk]
 ·show memKill p σ'.mem k=_
  unfold memKill
  rw [if_neg (by simp [hk])]
  have hqk:q k=false:=by
   cases hqk:q k with
   | false=>rfl
   | true =>
    obtain ⟨a,b⟩:=hqb k hqk
    simp [p,a,b] at hk
  rw [ho k hqk]
  cases σ.mem k with
  | none=>rfl
  | some c=>simp only [Option.map_some,mapmap_kill,hqp]

structure MemR (mem0 mem:Mem) (d:Nat) (p:List Nat) (i n:Nat):Prop where
 clo:∀ q:Key→Bool,(∀ key:Key,key.1=d→q key=false)→memKill q mem0=mem0→memKill q mem=mem
 far:∀ key,(∀ j r,i≤j→j < i+n→key≠(d,pk (p ++ j :: r)))→mem key=mem0 key
def MarkOK (g:Cfg) (fn:Nat) (agg:Bool) (cs cs':List D) (k k':Int):Prop :=
 (∀ d p i,bxL d p i cs'=bxL d p i cs)∧∀ d d' p i mem,d≤d'→Tight d' mem→subL mem d p i cs →
  ∃ mem',callo g d' fn [avC agg (bxL d p i cs),.one (.s (.int .i64 k))] mem=some (.one (.s (.int .i64 k')),mem')∧MemR mem mem' d p i cs.length∧subL mem' d p i cs'
theorem bxC_copy (d:Nat) (p:List Nat) (c:D):(bxC d p c).copy=bxC d p c:=by cases c <;> rfl
theorem bxL_copy (d:Nat) (p:List Nat):∀ (cs:List D) (i:Nat),(bxL d p i cs).map C.copy=bxL d p i cs
 | [],_=>rfl
 | c :: cs,i=>by rw [bxL,List.map_cons,bxC_copy,bxL_copy d p cs (i+1)]
theorem av_copyB {v:AV} {d:Nat} {p:List Nat} {i:Nat} {cs:List D} (hv:∀ l,v≠.tu l) (h:cellsOf v=bxL d p i cs):v.copy=v:=by
 cases v with
 | one c =>
  have:=bxL_copy d p cs i
  rw [← h] at this
  simp only [cellsOf,List.map_cons,List.map_nil,List.cons.injEq,and_true] at this
  simp only [AV.copy,this]
 | ag l =>
  have:=bxL_copy d p cs i
  rw [← h] at this
  simp only [cellsOf] at this
  simp only [AV.copy,this]
 | tu l=>exact absurd rfl (hv l)
theorem av_like {agg:Bool} {v:AV} {cs:List C} {ds:List C} (h0:sameF (avC agg ds) v) (hc:cellsOf v=cs):v=avC agg cs:=by
 subst hc
 cases agg with
 | true=>cases v <;> simp_all [sameF,cellsOf]
 | false =>
  cases v with
  | one c=>rfl
  | ag l =>
   exfalso
   match ds,h0 with
   | [],h0=>exact h0
   | [_],h0=>exact h0
   | _ :: _ :: _,h0=>exact h0
  | tu l =>
   exfalso
   match ds,h0 with
   | [],h0=>exact h0
   | [_],h0=>exact h0
   | _ :: _ :: _,h0=>exact h0
theorem goal_mark {g:Cfg} {d f:Nat} {T:Option Out→Prop} {K:List It} {σ:St} (x kk t2 t3 t4 fn:Nat) {ty1 ty2 ty3 ty4:TypeId} {p1 p2 p3 p4:String} {a1 a2 a3 a4:Array Edge} {as:Array TypeId} {agg:Bool} {cs cs':List D} {k k':Int}
 (hM:MarkOK g fn agg cs cs' k k') (hx:σ.env x=avC agg (cs.map (C.ofD .own))) (ha:agg=false→cs.length=1) (hk:σ.env kk=.one (.s (.int .i64 k))) (hw:wfL cs) (hw':wfL cs') (hN:∀ key:Key,bigK≤key.2→σ.mem key=none)
 (hro:isRo g f (some t4)=false∧isGive g f (some t4)=false) (htk:g.tk f (some t2)=false) (htk3:g.tk f (some t3)=false) (hctx:lookN fn g.ctx=none) (hne:x≠kk∧x≠t2∧x≠t3∧x≠t4∧kk≠t2∧t2≠t3)
 (next:∀ (σ':St) (q:Key→Bool),(∀ key:Key,key.1≤d→key.2 < bigK→q key=false)→σ'.env x=avC agg (cs'.map (C.ofD .own))→σ'.env kk=.one (.s (.int .i64 k')) →
  (∀ t,t≠x→t≠kk→t≠t2→t≠t3→t≠t4→σ'.env t=((σ.env t).killB).kill q)→(∀ key:Key,d < key.1∨bigK≤key.2→σ'.mem key=none) →
  (∀ key:Key,key.1≤d→key.2 < bigK→σ'.mem key=(σ.mem key).map (List.map fun c=>(c.killB).kill q))→Goal T (runK g d f K (.norm σ'))) :
 Goal T (ghoMK g d f (thawSlot d x) [] #[{ dst:=some t2,op:=.move (.tmp x),type:=ty1,pos:=p1,after:=a1,guard:=none },{ dst:=some t3,op:=.move (.tmp kk),type:=ty2,pos:=p2,after:=a2,guard:=none },
  {dst:=some t4,op:=.call { callee:=.value (.func fn),args:=#[.tmp t2,.tmp t3],argTypes:=as },type:=ty3,pos:=p3,after:=a3,guard:=none },
  {dst:=some kk,op:=.assign (.tmp t4),type:=ty4,pos:=p4,after:=a4,guard:=none }] (.gho [.many (frzSlot d x)] :: K) σ):=by
 obtain ⟨n1,n2,n3,n4,n5,n6⟩:=hne
 have hlen:agg=false→∃ c,cs.map (C.ofD .own)=[c]:=fun h=>by
  have:=ha h
  match cs,this with
  | [c],_=>exact ⟨_,rfl⟩
 have hv:∀ l,avC agg (cs.map (C.ofD .own))≠.tu l:=by
  intro l
  cases agg with
  | true=>simp
  | false=>obtain ⟨c,hc⟩:=hlen rfl;rw [hc];simp
 have hcl:cellsOf (avC agg (cs.map (C.ofD .own)))=cs.map (C.ofD .own):=by
  cases agg with
  | true=>rfl
  | false=>obtain ⟨c,hc⟩:=hlen rfl;rw [hc];rfl
 obtain ⟨σ1,v1,h1,he1,hs1,hc1,ht1,hsub1,hdp1,ho1⟩:=thawSlot_ok (d:=d) hx hv hcl hw hN
 have hv1:=sameF_tu hs1
 have hv1e:v1=avC agg (bxL d [] 0 cs):=av_like hs1 hc1
 have hcp:v1.copy=v1:=av_copyB hv1 hc1
 obtain ⟨hsh,hcall⟩:=hM
 obtain ⟨mem',hcl2,⟨_,hfr⟩,hsub2⟩:=hcall d d [] 0 σ1.mem (Nat.le_refl _) hdp1 hsub1
 have hkk1:σ1.env kk=.one (.s (.int .i64 k)):=by rw [ht1 kk (Ne.symm n1),hk];rfl
 unfold ghoMK
 rw [h1,Option.bind_some,ghoK_nil]
 simp only [o_cons,wants,g_true,s_move _ _ _ _ _ _ _ _ _ _ htk,s_move _ _ _ _ _ _ _ _ _ _ htk3,putD,opnd,he1,hcp]
 have hkm:upd σ1.env t2 v1 kk=.one (.s (.int .i64 k)):=by unfold upd;rw [if_neg n5];exact hkk1
 rw [hkm]
 simp only [AV.copy,C.copy]
 have hcopy:∀ env:Nat→AV,env t2=v1→env t3=.one (.s (.int .i64 k))→(#[Operand.tmp t2,.tmp t3].toList.map fun y=>(opnd env y).copy)=[avC agg (bxL d [] 0 cs),.one (.s (.int .i64 k))]:=by
  intro env e2 e3
  show [(env t2).copy,(env t3).copy]=_
  rw [e2,e3,hcp,hv1e]
  rfl
 rw [s_callF (hro:=hro),hctx,callX_none,hcopy _ (by simp [upd,n6]) (by simp [upd]),hcl2,retK_some]
 simp only [o_cons,wants,g_true,s_assign,putD,opnd,kil,o_nil,r_ghoM]
 unfold ghoMR
 generalize henv:(upd (upd (upd (upd (upd σ1.env t2 v1) t3 (AV.one (C.s (Value.int IntKind.i64 k)))) t4 (AV.one (C.s (Value.int IntKind.i64 k')))) t4 AV.dead) kk (upd (upd (upd σ1.env t2 v1) t3 (AV.one (C.s (Value.int IntKind.i64 k)))) t4 (AV.one (C.s (Value.int IntKind.i64 k'))) t4))=env2
 have hex:env2 x=v1:=by
  rw [← henv]
  simp only [upd,n1,n2,n3,n4,if_false]
  exact he1
 have hek:env2 kk=.one (.s (.int .i64 k')):=by
  rw [← henv]
  simp only [upd,if_true]
 have het:∀ t,t≠x→t≠kk→t≠t2→t≠t3→t≠t4→env2 t=((σ.env t).killB).kill (deepQ d):=by
  intro t h0 h1 h2 h3 h4
  rw [← henv]
  simp only [upd,h1,h2,h3,h4,if_false]
  exact ht1 t h0
 obtain ⟨σ3,v3,q,h3,hq,he3,hs3,hc3,ht3,hw3,hn3,ho3⟩:=frzSlot_ok (d:=d) (x:=x) (σ:={ env:=env2,mem:=mem' }) (cs:=cs') hex hv1 (by rw [hc1,hsh]) hw' hsub2
 rw [h3,Option.bind_some,ghoL,Option.bind_some]
 have hfar:∀ key:Key,(∀ j r,key≠(d,pk (j :: r)))→mem' key=memKill (deepQ d) (fun k=>(σ.mem k).map (List.map C.killB)) key:=fun key hkey=>by
  rw [hfr key fun j r _ _=>by rw [List.nil_append];exact hkey j r,ho1 key hkey]
 have hds:∀ key:Key,key.1≤d→deepQ d key=false:=fun key hkey=>by simp [deepQ];omega
 have hqs:∀ key:Key,key.1≤d→key.2 < bigK→(deepQ d key || q key)=false:=fun key hkd hkey=>by
  rw [hds key hkd,Bool.false_or]
  cases hqk:q key with
  | false=>rfl
  | true=>have:=hq key hqk;omega
 have hmem':∀ key:Key,key.1≤d→key.2 < bigK→mem' key=(σ.mem key).map (List.map fun c=>(c.killB).kill (deepQ d)):=fun key hkd hkey=>by
  rw [hfar key fun j r e=>by
   have:=pk_ge (j :: r)
   rw [e] at hkey
   simp only at hkey
   omega]
  unfold memKill
  rw [if_neg (by simp [hds key hkd])]
  show ((σ.mem key).map (List.map C.killB)).map (List.map (C.kill (deepQ d)))=_
  cases σ.mem key with
  | none=>rfl
  | some c=>simp only [Option.map_some,List.map_map,Function.comp_def]
 refine next σ3 (fun key=>deepQ d key || q key) hqs (he3.trans (av_like (sameF_trans hs1 hs3) hc3)) ?_ (fun t a1 a2 a3 a4 a5=>?_) (fun key hkey=>?_) (fun key hkd hkey=>?_)
 ·rw [ht3 kk (Ne.symm n1)]
  show (env2 kk).kill q=_
  rw [hek];rfl
 ·rw [ht3 t a1]
  show (env2 t).kill q=_
  rw [het t a1 a2 a3 a4 a5,akill_kill]
 ·cases hqk:q key with
  | true=>exact hn3 key hqk
  | false =>
   rw [ho3 key hqk]
   show (mem' key).map _=none
   by_cases hdl:d < key.1
   ·rw [hfar key (fun j r e=>by rw [e] at hdl;simp only at hdl;omega)]
    unfold memKill
    rw [if_pos (by simp [deepQ,hdl])]
    rfl
   have hkey:=hkey.resolve_left hdl
   by_cases hd:key.1=d
   ·have:=hw3 key hd hkey
    rw [ho3 key hqk] at this
    exact this
   ·rw [hfar key (fun j r e=>hd (by rw [e]))]
    unfold memKill
    show (if deepQ d key=true then none else ((σ.mem key).map (List.map C.killB)).map (List.map (C.kill (deepQ d)))).map _=none
    rw [hN key hkey]
    split <;> rfl
 ·have h0:=hqs key hkd hkey
  simp only [Bool.or_eq_false_iff] at h0
  rw [ho3 key h0.2]
  show (mem' key).map _=_
  rw [hmem' key hkd hkey]
  cases σ.mem key with
  | none=>rfl
  | some c=>simp only [Option.map_some,List.map_map,Function.comp_def,kill_kill]
end Go.Ev

