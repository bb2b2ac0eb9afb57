import Derived.Test.YtfcfpdcjepobpaaGreatEvA2
set_option linter.unusedSimpArgs false
set_option linter.unusedVariables false
set_option linter.unnecessarySimpa false
noncomputable section
namespace Go.Ev

def stepG (S:Oper→St→Option St) (ops:Array Oper) (o:Oper) (σ:St):Option St :=
 (wants ops σ.env o).bind fun want=>if want then S o σ else some { σ with env:=putD σ.env o.dst .skp }

def arun (S:Oper→St→Option St) (ops:Array Oper):List Oper→St→Option St
 | [],σ=>some σ
 | o :: r,σ=>(stepG S ops o σ).bind (arun S ops r)

theorem stepX_mono (g:Cfg) (n d f:Nat) (o:Oper) (σ:St):Le (stepX (callN g n d) g d f o σ) (stepX (callN g (n+1) d) g d f o σ):=zqf fun _ _ _=>zgx g d _ _ _ n

theorem stepX_up (g:Cfg) (d f:Nat) (o:Oper) (σ:St) {m n:Nat} (h:m≤n):Le (stepX (callN g m d) g d f o σ) (stepX (callN g n d) g d f o σ):=by
 induction h with
 | refl=>exact Le.refl _
 | step _ ih=>exact fun a ha=>stepX_mono _ _ _ _ _ _ a (ih a ha)

theorem zlk (g:Cfg) (d f:Nat) (ops:Array Oper):∀ (l:List Oper) (n N:Nat) (σ σ':St),n≤N+1→evOps g n d f ops l σ=some σ'→arun (stepX (callN g N d) g d f) ops l σ=some σ'
 | [],n,N,σ,σ',_,h=>by
  cases n with
  | zero=>rw [evOps] at h;cases h
  | succ n=>rw [evOps] at h;exact h
 | o :: r,n,N,σ,σ',hn,h=>by
  cases n with
  | zero=>rw [evOps] at h;cases h
  | succ n =>
   rw [evOps] at h
   rw [Option.bind_eq_some_iff] at h
   obtain ⟨want,hw,h⟩:=h
   rw [Option.bind_eq_some_iff] at h
   obtain ⟨σ1,h1,h2⟩:=h
   simp only [arun,stepG,hw,Option.bind_some]
   have hs:(if want=true then stepX (callN g N d) g d f o σ else some { σ with env:=putD σ.env o.dst .skp })=some σ1:=by
    cases want with
    | true=>exact stepX_up g d f o σ (by omega) σ1 h1
    | false=>exact h1
   rw [hs,Option.bind_some]
   exact zlk g d f ops r n N σ1 σ' (by omega) h2

def StepOK (P:Program) (d N:Nat) (o:Oper) (σ σ':St):Prop :=
 ∀ (G:Gh) (w:World) (a:Act) (K:Act→World→Prop) (Q:Exit→Act→World→Prop),Sim d N G σ a.tmps w →
  (∀ G' a' w',Sim d N G' σ' a'.tmps w'→Frm d G w G' w'→a'.defers=a.defers→K a' w')→o.wp P a w K Q

theorem OpOK.step {P:Program} {d N:Nat} {o:Oper} {σ σ1:St} {v:AV} (h:∀ (G:Gh) (w:World) (a:Act),Sim d N G σ a.tmps w→OpOK P d N G w a o σ1 v) :
 StepOK P d N o σ { σ1 with env:=putD σ1.env o.dst v }:=by
 intro G w a K Q hS hK
 obtain ⟨r,w',G',hr,hF,hS'⟩:=h G w a hS
 have hdef:(a.put o.dst r).defers=a.defers:=by cases o.dst <;> rfl
 unfold Oper.wp
 rcases hr with hr | ⟨hr,rfl⟩
 ·rw [hr];exact hK G' _ _ hS' hF hdef
 ·rw [hr];exact hK G' _ _ hS' hF hdef

theorem wants_ok {ops:Array Oper} {o:Oper} {d N:Nat} {G:Gh} {σ:St} {w:World} {a:Act} (h:Sim d N G σ a.tmps w) {b:Bool} (hw:wants ops σ.env o=some b):Region.wanted o (yielded ops a.tmps)=b:=by
 unfold wants at hw
 unfold Region.wanted
 cases hg:o.guard with
 | none=>rw [hg] at hw;simp only [Option.some.injEq] at hw;exact hw
 | some jb =>
  obtain ⟨j,want⟩:=jb
  rw [hg] at hw
  simp only [Option.bind_eq_some_iff] at hw
  obtain ⟨t,ht,hc⟩:=hw
  dsimp only
  unfold yielded
  have ht':(ops[j]?).bind (·.dst)=some t:=by simpa [Option.bind_eq_some_iff] using ht
  rw [ht']
  dsimp only [Option.bind_some]
  have hE:=h.env t
  unfold wantV at hc
  split at hc
  ·rename_i hsk
   rw [hsk] at hE
   obtain ⟨vs,hv,_,_⟩:=hE
   cases hc
   rw [Array.getD_eq_getD_getElem?] at hv
   cases hq:a.tmps[t]? with
   | none=>rfl
   | some u =>
    rw [hq] at hv
    have hv:u=.tuple vs:=hv
    subst hv
    rfl
  rw [Option.bind_eq_some_iff] at hc
  obtain ⟨c,hc,hcb⟩:=hc
  obtain rfl:(c == want)=b:=by simpa using hcb
  have hv:=zmz hc hE
  have hval:a.tmps[t]?=some (.bool c):=by
   rw [Array.getD_eq_getD_getElem?] at hv
   cases hq:a.tmps[t]? with
   | none=>rw [hq] at hv;cases hv
   | some u=>rw [hq] at hv;rw [← hv];rfl
  rw [hval]
  cases c <;> cases want <;> rfl

def postC (d N:Nat) (G:Gh) (w:World) (out:Out):Exit→Act→World→Prop
 | .normal,a',w'=>a'.defers=[]∧∃ σ' G',out=.norm σ'∧Sim d N G' σ' a'.tmps w'∧Frm d G w G' w'
 | .exit id,a',w'=>a'.defers=[]∧∃ σ' G',out=.exit id σ'∧Sim d N G' σ' a'.tmps w'∧Frm d G w G' w'
 | .ret,a',w'=>a'.defers=[]∧∃ σ' G',out=.ret σ'∧Sim d N G' σ' a'.tmps w'∧Frm d G w G' w'
 | _,_,_=>False

theorem postC.trans {d N:Nat} {G G1:Gh} {w w1:World} {out:Out} (hF:Frm d G w G1 w1):∀ e a' w',postC d N G1 w1 out e a' w'→postC d N G w out e a' w':=by
 intro e a' w' h
 cases e <;> first
  | exact h
  | (obtain ⟨h0,σ',G',h1,h2,h3⟩:=h;exact ⟨h0,σ',G',h1,h2,hF.trans h3⟩)

theorem zmx {P:Program} {d N:Nat} {ops:Array Oper} {Q:Exit→Act→World→Prop} {S:Oper→St→Option St} (hS:∀ o∈ops.toList,∀ σ σ',S o σ=some σ'→StepOK P d N o σ σ')
 (hd:∀ o∈ops.toList,o.dst.all (· < N)=true):∀ (k i:Nat),i+k=ops.size→∀ (G:Gh) (w:World) (a:Act) (σ σ':St),Sim d N G σ a.tmps w→arun S ops (ops.toList.drop i) σ=some σ' →
 (∀ G' a' w',Sim d N G' σ' a'.tmps w'→Frm d G w G' w'→a'.defers=a.defers→Q .normal a' w')→wpOps P ops Q (List.range' i k) a w
 | 0,i,hi,G,w,a,σ,σ',hs,hr,hQ=>by
  rw [List.drop_eq_nil_of_le (by rw [Array.length_toList];omega)] at hr
  simp only [arun,Option.some.injEq] at hr
  subst hr
  exact hQ G a w hs (Frm.refl _ _ _) rfl
 | k+1,i,hi,G,w,a,σ,σ',hs,hr,hQ=>by
  have hlt:i < ops.toList.length:=by rw [Array.length_toList];omega
  rw [List.drop_eq_getElem_cons hlt] at hr
  simp only [arun,Option.bind_eq_some_iff] at hr
  obtain ⟨σ1,h1,h2⟩:=hr
  unfold stepG at h1
  rw [Option.bind_eq_some_iff] at h1
  obtain ⟨want,hw,h1⟩:=h1
  rw [List.range'_succ,wpOps_cons]
  have ho:ops[i]?=some ops.toList[i]:=by rw [← Array.getElem?_toList];exact List.getElem?_eq_getElem hlt
  unfold wpOp
  rw [ho]
  simp only
  rw [wants_ok hs hw]
  have hmem:=List.getElem_mem hlt
  cases want with
  | true =>
   simp only [if_true] at h1 ⊢
   left
   refine hS _ hmem σ σ1 h1 G w a _ _ hs fun G' a' w' hs' hF' hdf=>?_
   exact zmx hS hd k (i+1) (by omega) G' w' a' σ1 σ' hs' h2 fun G2 a2 w2 hs2 hF2 hdf2=>hQ G2 a2 w2 hs2 (hF'.trans hF2) (hdf2.trans hdf)
  | false =>
   simp only [Bool.false_eq_true,if_false,Option.some.injEq] at h1 ⊢
   subst h1
   have hs':=hs.put (hd _ hmem) (v:=.skp) (r:=undef) fun _ _=>RA_skp
   refine zmx hS hd k (i+1) (by omega) G w _ _ σ' hs' h2 fun G2 a2 w2 hs2 hF2 hdf2=>hQ G2 a2 w2 hs2 hF2 (hdf2.trans ?_)
   cases ops.toList[i].dst <;> rfl

theorem zph {P:Program} {w:World} {a:Act} {f:Nat} {x:Operand} {args:Array Operand} {argTypes:Array TypeId} {dst:Option Nat} {ty:TypeId} {pos:String} {after:Array Edge} {guard:Option (Nat × Bool)}
 {caps:Array Value} (hx:a.eval x=.func (.func f) #[] caps) (hE:Enters P f) :
 (execOp a.eval { dst,op:=.call { callee:=.value x,args,argTypes },type:=ty,pos,after,guard }).run P w=.ok (.enter f (args.map a.eval ++ caps)) w:=by
 obtain ⟨fn,h1,h2,h3⟩:=hE
 have h4:¬ fn.body=none:=by cases hb:fn.body <;> simp_all
 have h3 : ¬ fn.name = "runtime.NumGoroutine" := by simpa using h3
 simp only [execOp,resolve,hx,Deferred.ofValue,Array.empty_append]
 simp [invoke,callFunc,h1,h3,h4]

theorem zor {d N:Nat} {G:Gh} {σ:St} {w:World} {a:Act} (h:Sim d N G σ a.tmps w) {x:Operand} {k:Nat} {caps:List AV} (hc:calleeOf σ.env x=some (k,caps)) :
 ∃ vs:Array Value,a.eval x=.func (.func k) #[] vs∧ArgsOK w G caps vs:=by
 unfold calleeOf at hc
 split at hc
 ·rename_i f cs hx
  simp only [Option.some.injEq,Prod.mk.injEq] at hc
  obtain ⟨rfl,rfl⟩:=hc
  have hr:=h.opnd x
  rw [hx] at hr
  obtain ⟨hl,vs,hv,hvs⟩:=hr
  refine ⟨vs,hv,by rw [← Array.length_toList,hvs,List.length_map,List.length_map],fun i y hi=>?_⟩
  rw [List.getElem?_map] at hi
  cases hq:cs[i]? with
  | none=>rw [hq] at hi;cases hi
  | some c =>
   rw [hq] at hi
   simp only [Option.map_some,Option.some.injEq] at hi
   subst hi
   refine ⟨.pointer (some ⟨G.β c.1,c.2,none⟩),by rw [← Array.getElem?_toList,hvs,List.getElem?_map,hq];rfl,fun _ _=>⟨hl c (List.mem_of_getElem? hq),rfl⟩⟩
 ·cases hc

theorem ArgsOK.append {w:World} {G:Gh} {az_ bs:List AV} {us vs:Array Value} (h1:ArgsOK w G az_ us) (h2:ArgsOK w G bs vs):ArgsOK w G (az_ ++ bs) (us ++ vs):=by
 refine ⟨by rw [Array.size_append,h1.1,h2.1,List.length_append],fun i x hi=>?_⟩
 rw [List.getElem?_append] at hi
 split at hi
 ·rename_i hlt
  obtain ⟨v,hv,hr⟩:=h1.2 i x hi
  exact ⟨v,by rw [Array.getElem?_append,if_pos (by rw [h1.1];exact hlt)];exact hv,hr⟩
 ·rename_i hge
  obtain ⟨v,hv,hr⟩:=h2.2 _ x hi
  exact ⟨v,by rw [Array.getElem?_append,if_neg (by rw [h1.1];exact hge),h1.1];exact hv,hr⟩

theorem ArgsOK.operands {d N:Nat} {G:Gh} {σ:St} {w:World} {a:Act} (h:Sim d N G σ a.tmps w) (args:Array Operand) :
 ArgsOK w G (args.toList.map fun y=>(opnd σ.env y).copy) (args.map a.eval):=by
 refine ⟨by simp,fun i x hi=>?_⟩
 rw [List.getElem?_map,Array.getElem?_toList] at hi
 cases hq:args[i]? with
 | none=>rw [hq] at hi;cases hi
 | some y =>
  rw [hq] at hi
  simp only [Option.map_some,Option.some.injEq] at hi
  subst hi
  exact ⟨a.eval y,by rw [Array.getElem?_map,hq];rfl,fun _ _=>RA_copy (h.opnd y)⟩

theorem call_step {P:Program} {d N:Nat} {o:Oper} {σ:St} (hd:o.dst.all (· < N)=true) {x:Operand} {args:Array Operand} {argTypes:Array TypeId} (ho:o.op=.call { callee:=.value x,args,argTypes })
 {k:Nat} {caps:List AV} (hc:calleeOf σ.env x=some (k,caps)) {r:AV} {mem':Mem} (hcall:CallOK P d k (args.toList.map (fun y=>(opnd σ.env y).copy) ++ caps) σ.mem mem' r) :
 StepOK P d N o σ { env:=putD σ.env o.dst r,mem:=mem' }:=by
 intro G w a K Q hS hK
 obtain ⟨vs,hv,hcap⟩:=zor hS hc
 obtain ⟨hE,hcalls⟩:=hcall
 have hA:=(ArgsOK.operands hS args).append hcap
 have hC:=hcalls G w _ hA hS.memOK
 obtain ⟨dst,op,ty,pos,after,guard⟩:=o
 simp only at ho hd ⊢
 subst ho
 unfold Oper.wp
 rw [zph hv hE]
 show Calls P k _ w _
 refine hC.mono fun e w' he=>?_
 obtain ⟨v,G',rfl,hR,hM,hF⟩:=he
 simp only

 have hFd:Frm d G w G' w' :=
  {size:=hF.size,kept:=hF.kept,age:=fun b hb ha=>hF.age b hb (by omega),box:=fun b hb ha=>hF.box b hb (by omega),use:=fun b hb ha=>hF.use b hb (by omega),cell:=fun b off hb ha=>hF.cell b off hb (by omega),live:=fun k hk hkd=>hF.live k hk (by omega)
   same:=fun b hb ht=>hF.same b hb fun hh=>ht (by
    cases hg:G.own b with
    | none=>rw [hg] at hh;exact hh
    | some t =>
     rw [hg] at hh
     cases t with
     | foreign=>exact hh
     | box k=>trivial
     | «at» o q =>
      cases o with
      | slot d' t'=>exact Nat.le_of_succ_le hh
      | cell k=>trivial
      | ret=>trivial),back:=fun k hk hl=>hF.back k (by omega) hl,up:=fun b hb=>by
    by_cases hge:d+1≤G.age b+1
    ·have:=hF.up b hge;omega
    ·have hlt:b < w.heap.size:=by
      rcases Nat.lt_or_ge b w.heap.size with h | h
      ·exact h
      ·have:=hS.fut b h;omega
     rw [hF.age b hlt (by omega)];exact hb }
 have henv:∀ t,RA w' G' (.slot d t) (σ.env t) (a.tmps.getD t undef):=fun t=>by
  have hh:Hands w G w' G' (.slot d t) [] (.slot d t) [] fun _=>false:=Frm.hands hF (fun r hh=>by have:d+1≤d:=hh;omega) (fun b _=>Nat.lt_succ_of_le (hS.age b)) (fun k hk _=>hF.live k hk (by have:=hS.dep k hk;omega))
  exact hh.ra0 (hS.env t)
 have hS1:Sim d N G' { σ with mem:=mem' } a.tmps w':=hM.sim hS.sz henv (jump_call hS.jump (fun b hb=>Nat.le_of_eq (hS.fut b hb).symm) hF)
 have hdef:(a.put dst v).defers=a.defers:=by cases dst <;> rfl
 cases dst with
 | none=>exact hK G' _ w' hS1 hFd hdef
 | some t =>
  have hφ:RenOK d (mvT .ret (.slot d t)):=mvT_ok trivial (Nat.le_refl d)
  have hS2:=hS1.ren hφ σ.env mem' (fun t2=>.inr ⟨rfl,fun q=>by simp [mvT]⟩) (Sim.memSame (σ:={ σ with mem:=mem' }) _ fun k q=>by simp [mvT]) (fun o p k q hq=>by
   left
   simp only [mvT] at hq
   split at hq
   ·cases hq
   ·simp only [Tag.at.injEq] at hq;exact ⟨k,hq.1,rfl⟩)
  have hR2:RA w' (Ev.ren G' (mvT .ret (.slot d t))) (.slot d t) r v:=(hφ.hands G' w' (p:=[]) (p':=[]) fun q=>by simp [mvT]).ra0 hR
  have hS3:=hS2.put (a:=a) (dst:=some t) hd (v:=r) (r:=v) fun t' ht'=>by cases ht';exact hR2
  exact hK _ _ w' hS3 (hFd.trans (hφ.frm G' w')) hdef

end Go.Ev


namespace Go.Ev

def Rev (m1 m:Mem):Prop:=∀ k cs1,m1 k=some cs1→∃ cs,m k=some cs∧cs.length=cs1.length∧∀ (i:Nat) c,cs1[i]?=some c→c.isDead=false→∃ c',cs[i]?=some c'∧c'.copy=c.copy
theorem Rev.refl (m:Mem):Rev m m:=fun _ cs h=>⟨cs,h,rfl,fun _ c h _=>⟨c,h,rfl⟩⟩
theorem isDead_copy (c:C):c.copy.isDead=c.isDead:=by cases c <;> rfl
theorem Rev.seg {m1 m:Mem} (h:Rev m1 m) {k:Key} {cs1:List C} (hk:m1 k=some cs1) {off n:Nat} {sg:List C} (hs:Ev.seg cs1 off n=some sg) (hd:sg.all (fun c=>!c.isDead)=true) :
 ∃ cs sg',m k=some cs∧Ev.seg cs off n=some sg'∧sg'.map C.copy=sg.map C.copy∧sg'.all (fun c=>!c.isDead)=true:=by
 obtain ⟨cs,hc,hl,hi⟩:=h k cs1 hk
 unfold Ev.seg at hs
 split at hs
 ·rename_i hle
  simp only [Option.some.injEq] at hs
  have hmap:((cs.drop off).take n).map C.copy=sg.map C.copy:=by
   rw [← hs]
   apply List.ext_getElem?
   intro i
   rw [List.getElem?_map,List.getElem?_map,List.getElem?_take,List.getElem?_take]
   by_cases hin:i < n
   ·rw [if_pos hin,if_pos hin,List.getElem?_drop,List.getElem?_drop]
    have hx:cs1[off+i]?=some cs1[off+i]:=List.getElem?_eq_getElem (by omega)
    have hm:cs1[off+i]∈sg:=by
     rw [← hs]
     refine List.mem_of_getElem? (i:=i) ?_
     rw [List.getElem?_take,if_pos hin,List.getElem?_drop,hx]
    rw [List.all_eq_true] at hd
    obtain ⟨c',h1,h2⟩:=hi _ _ hx (by simpa using hd _ hm)
    rw [hx,h1,Option.map_some,Option.map_some,h2]
   ·rw [if_neg hin,if_neg hin]
  refine ⟨cs,(cs.drop off).take n,hc,by unfold Ev.seg;rw [if_pos (by omega)],hmap,?_⟩
  have hall:∀ l:List C,l.all (fun c=>!c.isDead)=(l.map C.copy).all (fun c=>!c.isDead):=fun l=>by
   rw [List.all_map]
   congr 1
   funext c
   simp only [Function.comp_apply,isDead_copy]
  rw [hall,hmap,← hall]
  exact hd
 ·cases hs

def agreeM:Cls→Key→Mem→Mem→Prop
 | .p,_,_,_=>True
 | .l,_,m,m'=>Rev m m'
 | .a,key,_,m'=>m' key=none
 | .m,_,m,m'=>m'=m
 | .t,_,m,m'=>m'=m

def effM:Cls→Key→Mem→Mem→Prop
 | .p,_,m,m1=>m1=m
 | .l,_,m,m1=>m1=m
 | .a,key,m,m1=>m key=none∧∃ cs,m1=upd m key cs
 | .m,_,_,_=>True
 | .t,_,m,m1=>Rev m1 m

def sameM:Cls→Key→Mem→Mem→Prop
 | .a,key,m1,m1'=>m1' key=m1 key
 | .m,_,m1,m1'=>m1'=m1
 | .t,_,m1,m1'=>m1'=m1
 | _,_,_,_=>True

structure Local (S:St→Option St) (R W:List Nat) (c:Cls) (key:Key):Prop where
 env:∀ σ σ1,S σ=some σ1→∀ t,t ∉ W→σ1.env t=σ.env t
 mem:∀ σ σ1,S σ=some σ1→effM c key σ.mem σ1.mem
 ext:∀ σ σ1 σ',S σ=some σ1→(∀ t∈R,σ'.env t=σ.env t)→agreeM c key σ.mem σ'.mem →
  ∃ σ1',S σ'=some σ1'∧(∀ t∈W,σ1'.env t=σ1.env t)∧sameM c key σ1.mem σ1'.mem

theorem St.ext' {σ τ:St} (h1:∀ t,σ.env t=τ.env t) (h2:σ.mem=τ.mem):σ=τ:=by
 cases σ;cases τ
 simp only at h1 h2
 subst h2
 congr 1
 exact funext h1

theorem swap {Sx Sy:St→Option St} {Rx Wx Ry Wy:List Nat} {cx cy:Cls} {kx ky:Key} (hx:Local Sx Rx Wx cx kx) (hy:Local Sy Ry Wy cy ky)
 (h1:∀ t∈Wx,t ∉ Ry) (h2:∀ t∈Wx,t ∉ Wy) (h3:∀ t∈Rx,t ∉ Wy) (hc:clsOK cx cy=true) (hk:cx=.a→cy=.a→kx≠ky) {σ σ1 σ2:St} (hs1:Sx σ=some σ1) (hs2:Sy σ1=some σ2) :
 ∃ σ1',Sy σ=some σ1'∧Sx σ1'=some σ2:=by
 have e1:=hx.env σ σ1 hs1
 have m1:=hx.mem σ σ1 hs1
 have e2:=hy.env σ1 σ2 hs2
 have m2:=hy.mem σ1 σ2 hs2

 have ay:agreeM cy ky σ1.mem σ.mem:=by
  cases cy with
  | p=>trivial
  | l =>
   show Rev σ1.mem σ.mem
   cases cx with
   | p=>simp only [effM] at m1;rw [m1];exact Rev.refl _
   | l=>simp only [effM] at m1;rw [m1];exact Rev.refl _
   | a=>simp [clsOK] at hc
   | m=>simp [clsOK] at hc
   | t=>exact m1
  | t =>
   cases cx with
   | p=>simp only [effM] at m1;exact m1.symm
   | _=>simp [clsOK] at hc
  | a =>
   simp only [effM] at m2
   show σ.mem ky=none
   cases cx with
   | p=>simp only [effM] at m1;rw [← m1];exact m2.1
   | l=>simp only [effM] at m1;rw [← m1];exact m2.1
   | a =>
    obtain ⟨_,cs,hcs⟩:=m1
    have:=m2.1
    rw [hcs] at this
    have hne:ky≠kx:=fun e=>hk rfl rfl e.symm
    simpa [upd,hne] using this
   | m=>simp [clsOK] at hc
   | t=>simp [clsOK] at hc
  | m =>
   cases cx with
   | p=>simp only [effM] at m1;exact m1.symm
   | l=>simp [clsOK] at hc
   | a=>simp [clsOK] at hc
   | m=>simp [clsOK] at hc
   | t=>simp [clsOK] at hc
 obtain ⟨σ1',hy',ew,mw⟩:=hy.ext σ1 σ2 σ hs2 (fun t ht=>(e1 t (fun hw=>h1 t hw ht)).symm) ay
 have e1':=hy.env σ σ1' hy'
 have m1':=hy.mem σ σ1' hy'
 have ax:agreeM cx kx σ.mem σ1'.mem:=by
  cases cx with
  | p=>trivial
  | l =>
   show Rev σ.mem σ1'.mem
   cases cy with
   | p=>simp only [effM] at m1';rw [m1'];exact Rev.refl _
   | l=>simp only [effM] at m1';rw [m1'];exact Rev.refl _
   | a =>
    obtain ⟨hn,cs,hcs⟩:=m1'
    intro k ks hkn
    have hne:k≠ky:=fun e=>by subst e;rw [hn] at hkn;cases hkn
    rw [hcs]
    exact ⟨ks,by simp [upd,hne,hkn],rfl,fun _ c h _=>⟨c,h,rfl⟩⟩
   | m=>simp [clsOK] at hc
   | t=>simp [clsOK] at hc
  | t =>
   cases cy with
   | p=>simp only [effM] at m1';exact m1'
   | l=>simp only [effM] at m1';exact m1'
   | _=>simp [clsOK] at hc
  | a =>
   show σ1'.mem kx=none
   have hn:=m1.1
   cases cy with
   | p=>simp only [effM] at m1';rw [m1'];exact hn
   | l=>simp [clsOK] at hc
   | a =>
    obtain ⟨_,cs,hcs⟩:=m1'
    rw [hcs]
    have hne:kx≠ky:=hk rfl rfl
    simpa [upd,hne] using hn
   | m=>simp [clsOK] at hc
   | t=>simp [clsOK] at hc
  | m =>
   cases cy with
   | p=>simp only [effM] at m1';exact m1'
   | l=>simp [clsOK] at hc
   | a=>simp [clsOK] at hc
   | m=>simp [clsOK] at hc
   | t=>simp [clsOK] at hc
 obtain ⟨σ2',hx',ew2,mw2⟩:=hx.ext σ σ1 σ1' hs1 (fun t ht=>e1' t (h3 t ht)) ax
 have e2':=hx.env σ1' σ2' hx'
 have m2':=hx.mem σ1' σ2' hx'
 refine ⟨σ1',hy',?_⟩
 rw [hx']
 congr 1
 refine St.ext' (fun t=>?_) ?_
 ·by_cases hwx:t∈Wx
  ·rw [ew2 t hwx,e2 t (h2 t hwx)]
  ·rw [e2' t hwx]
   by_cases hwy:t∈Wy
   ·exact ew t hwy
   ·rw [e1' t hwy,e2 t hwy,e1 t hwx]
 ·cases cx with
  | p =>
   simp only [effM] at m1 m2'
   rw [m2']
   cases cy with
   | p=>simp only [effM] at m1' m2;rw [m1',m2,m1]
   | l=>simp only [effM] at m1' m2;rw [m1',m2,m1]
   | a =>
    obtain ⟨_,cs,hcs⟩:=m1'
    obtain ⟨_,cs2,hcs2⟩:=m2
    simp only [sameM] at mw
    rw [hcs,hcs2] at mw ⊢
    simp only [upd,if_true] at mw
    rw [m1,mw]
   | m=>exact mw
   | t=>exact mw
  | l =>
   simp only [effM] at m1 m2'
   rw [m2']
   cases cy with
   | p=>simp only [effM] at m1' m2;rw [m1',m2,m1]
   | l=>simp only [effM] at m1' m2;rw [m1',m2,m1]
   | a =>
    obtain ⟨_,cs,hcs⟩:=m1'
    obtain ⟨_,cs2,hcs2⟩:=m2
    simp only [sameM] at mw
    rw [hcs,hcs2] at mw ⊢
    simp only [upd,if_true] at mw
    rw [m1,mw]
   | m=>simp [clsOK] at hc
   | t=>simp [clsOK] at hc
  | a =>
   obtain ⟨_,c1,hc1⟩:=m1
   obtain ⟨_,c2,hc2⟩:=m2'
   simp only [sameM] at mw2
   rw [hc1,hc2] at mw2
   simp only [upd,if_true] at mw2
   subst mw2
   cases cy with
   | p=>simp only [effM] at m1' m2;rw [hc2,m1',m2,hc1]
   | l=>simp [clsOK] at hc
   | a =>
    obtain ⟨_,c3,hc3⟩:=m1'
    obtain ⟨_,c4,hc4⟩:=m2
    simp only [sameM] at mw
    rw [hc3,hc4] at mw
    simp only [upd,if_true] at mw
    subst mw
    rw [hc2,hc3,hc4,hc1]
    have hne:kx≠ky:=hk rfl rfl
    funext k
    unfold upd
    by_cases h1:k=kx
    ·subst h1;simp [hne]
    ·simp [h1]
   | m=>simp [clsOK] at hc
   | t=>simp [clsOK] at hc
  | m =>
   cases cy with
   | p=>simp only [effM] at m1' m2;simp only [sameM] at mw2;rw [mw2,m2]
   | l=>simp [clsOK] at hc
   | a=>simp [clsOK] at hc
   | m=>simp [clsOK] at hc
   | t=>simp [clsOK] at hc
  | t =>
   cases cy with
   | p=>simp only [effM] at m1' m2;simp only [sameM] at mw2;rw [mw2,m2]
   | l=>simp only [effM] at m1' m2;simp only [sameM] at mw2;rw [mw2,m2]
   | _=>simp [clsOK] at hc

theorem zlc {ops:Array Oper} {o:Oper} {t:Nat} (h:Operand.tmp t∈o.op.operands):t∈readsOf ops o:=by
 unfold readsOf
 exact List.mem_append_left _ (List.mem_filterMap.2 ⟨.tmp t,by simpa using h,rfl⟩)

theorem zbi {ops:Array Oper} {o:Oper} {σ σ':St} (h:∀ t∈readsOf ops o,σ'.env t=σ.env t) {x:Operand} (hx:x∈o.op.operands):opnd σ'.env x=opnd σ.env x:=by
 cases x with
 | tmp t=>exact h t (zlc hx)
 | _=>rfl

theorem wants_eq {ops:Array Oper} {o:Oper} {σ σ':St} (h:∀ t∈readsOf ops o,σ'.env t=σ.env t):wants ops σ'.env o=wants ops σ.env o:=by
 unfold wants
 cases hg:o.guard with
 | none=>rfl
 | some jb =>
  obtain ⟨j,b⟩:=jb
  cases ht:(ops[j]?).bind (·.dst) with
  | none=>dsimp only;rw [ht];rfl
  | some t =>
   have:t∈readsOf ops o:=by
    unfold readsOf
    rw [hg]
    exact List.mem_append_right _ (by simp only [ht];simp)
   dsimp only
   rw [ht]
   simp only [Option.bind_some,h t this]

theorem zhn {env:Nat→AV} {x:Operand} {t:Nat} (h:x≠.tmp t):kil env x t=env t:=by
 cases x with
 | tmp u=>simp only [kil,upd];rw [if_neg];rintro rfl;exact h rfl
 | _=>rfl
theorem zpm {env env':Nat→AV} {t:Nat}:kil env (.tmp t) t=kil env' (.tmp t) t:=by simp [kil,upd]

theorem zhw {env:Nat→AV} {dst:Option Nat} {v:AV} {t:Nat} (h:dst≠some t):putD env dst v t=env t:=by
 cases dst with
 | none=>rfl
 | some u=>simp only [putD,upd];rw [if_neg];rintro rfl;exact h rfl

def takesOf (g:Cfg) (f:Nat) (o:Oper):List Nat :=
 let ts:=o.op.operands.toList.filterMap fun | .tmp t=>some t | _=>none
 match o.op with
 | .move _=>if g.tk f o.dst then ts else []
 | .assign _ | .extract .. | .box .. | .store .. | .build .. | .buildSlice ..=>ts
 | .call { callee:=.builtin .append,.. }=>ts
 | _=>[]

theorem zib (g:Cfg) (f:Nat) (o:Oper):writesOf g f o=o.dst.toList ++ takesOf g f o:=rfl

def LocalOp (g:Cfg) (d f:Nat) (ops:Array Oper) (o:Oper) (σ σ1:St) (v:AV):Prop :=
 (∀ t,t ∉ takesOf g f o→σ1.env t=σ.env t)∧effM (clsOf g f o) (d,o.dst.getD 0) σ.mem σ1.mem ∧
 ∀ σ',(∀ t∈readsOf ops o,σ'.env t=σ.env t)→agreeM (clsOf g f o) (d,o.dst.getD 0) σ.mem σ'.mem →
  ∃ σ1',opE g d f o σ'=some (v,σ1')∧(∀ t∈takesOf g f o,σ1'.env t=σ1.env t)∧sameM (clsOf g f o) (d,o.dst.getD 0) σ1.mem σ1'.mem

theorem loc_p {g:Cfg} {d f:Nat} {ops:Array Oper} {o:Oper} {σ σ1:St} {v:AV} (hc:clsOf g f o=.p) (ht:takesOf g f o=[]) (h1:σ1=σ)
 (h2:∀ σ',(∀ t∈readsOf ops o,σ'.env t=σ.env t)→opE g d f o σ'=some (v,σ')):LocalOp g d f ops o σ σ1 v:=by
 subst h1
 refine ⟨fun _ _=>rfl,by rw [hc];rfl,fun σ' hR _=>⟨σ',h2 σ' hR,by rw [ht];simp,by rw [hc];trivial⟩⟩

theorem loc_l {g:Cfg} {d f:Nat} {ops:Array Oper} {o:Oper} {σ σ1:St} {v:AV} (hc:clsOf g f o=.l) (ht:takesOf g f o=[]) (h1:σ1=σ)
 (h2:∀ σ',(∀ t∈readsOf ops o,σ'.env t=σ.env t)→Rev σ.mem σ'.mem→opE g d f o σ'=some (v,σ')):LocalOp g d f ops o σ σ1 v:=by
 subst h1
 refine ⟨fun _ _=>rfl,by rw [hc];rfl,fun σ' hR hA=>?_⟩
 rw [hc] at hA
 exact ⟨σ',h2 σ' hR hA,by rw [ht];simp,by rw [hc];trivial⟩

theorem loc_t {g:Cfg} {d f:Nat} {ops:Array Oper} {o:Oper} {σ σ1:St} {v:AV} (E:(Nat→AV)→Nat→AV) (hc:clsOf g f o=.p) (h1:σ1={ σ with env:=E σ.env })
 (he:∀ e t,t ∉ takesOf g f o→E e t=e t) (hi:∀ e e',(∀ t∈readsOf ops o,e' t=e t)→∀ t∈takesOf g f o,E e' t=E e t)
 (h2:∀ σ',(∀ t∈readsOf ops o,σ'.env t=σ.env t)→opE g d f o σ'=some (v,{ σ' with env:=E σ'.env })):LocalOp g d f ops o σ σ1 v:=by
 subst h1
 refine ⟨fun t ht=>he _ t ht,by rw [hc];rfl,fun σ' hR _=>⟨_,h2 σ' hR,fun t ht=>hi _ _ hR t ht,by rw [hc];trivial⟩⟩

theorem zjh {ps:List (Nat × Operand)} {t:Nat}:∀ {e:Nat→AV},(∀ p∈ps,p.2≠.tmp t)→ps.foldl (fun e p=>kil e p.2) e t=e t:=by
 induction ps with
 | nil=>intro e _;rfl
 | cons p ps ih =>
  intro e h
  rw [List.foldl_cons,ih fun q hq=>h q (List.mem_cons_of_mem _ hq)]
  exact zhn (h p (List.mem_cons_self ..))

theorem zir {ps:List (Nat × Operand)} {t:Nat}:∀ {e:Nat→AV},(∃ p∈ps,p.2=.tmp t)→ps.foldl (fun e p=>kil e p.2) e t=.dead:=by
 induction ps with
 | nil=>intro e h;obtain ⟨p,hp,_⟩:=h;cases hp
 | cons p ps ih =>
  intro e h
  rw [List.foldl_cons]
  by_cases hh:∃ q∈ps,q.2=.tmp t
  ·exact ih hh
  ·obtain ⟨q,hq,he⟩:=h
   cases hq with
   | tail _ hq=>exact absurd ⟨q,hq,he⟩ hh
   | head =>
    rw [zjh fun q hq e=>hh ⟨q,hq,e⟩,he]
    simp [kil,upd]

theorem zfp {P:Program} {env env':Nat→AV} {o:Oper} (h:∀ x∈o.op.operands,opnd env' x=opnd env x)
 (hx:∀ ρ ρ':Operand→Value,(∀ x∈o.op.operands,ρ' x=ρ x)→execOp ρ' o=execOp ρ o):scalarOp P env' o=scalarOp P env o:=by
 unfold scalarOp
 have h1:o.op.operands.all (fun x=>(sclr (opnd env' x)).isSome)=o.op.operands.all (fun x=>(sclr (opnd env x)).isSome):=by
  rw [Bool.eq_iff_iff,Array.all_eq_true_iff_forall_mem,Array.all_eq_true_iff_forall_mem]
  exact ⟨fun hh x hx=>by rw [← h x hx];exact hh x hx,fun hh x hx=>by rw [h x hx];exact hh x hx⟩
 rw [h1,hx _ _ fun x hx=>by rw [h x hx]]

theorem zdc (op:Op) (t:Nat):t∈(op.operands.toList.filterMap fun | .tmp t=>some t | _=>none) ↔ Operand.tmp t∈op.operands:=by
 rw [List.mem_filterMap]
 constructor
 ·rintro ⟨a,ha,he⟩
  cases a with
  | tmp u=>simp only [Option.some.injEq] at he;subst he;simpa using ha
  | _=>cases he
 ·intro h;exact ⟨.tmp t,by simpa using h,rfl⟩

theorem mapM_congr' {α β:Type} {F H:α→Option β}:∀ {l:List α},(∀ x∈l,F x=H x)→l.mapM F=l.mapM H
 | [],_=>rfl
 | a :: l,h=>by
  rw [List.mapM_cons,List.mapM_cons,h a (List.mem_cons_self ..),mapM_congr' fun x hx=>h x (List.mem_cons_of_mem _ hx)]

theorem opE_local (g:Cfg) (d f:Nat) (ops:Array Oper) (o:Oper) {σ σ1:St} {v:AV} (h:opE g d f o σ=some (v,σ1)):LocalOp g d f ops o σ σ1 v:=by
 obtain ⟨dst,op,ty,pos,after,guard⟩:=o
 cases op with
 | move x =>
  have hk:∀ t,x=.tmp t ↔ Operand.tmp t∈(Op.move x).operands:=fun t=>by simp [Op.operands,eq_comm]
  cases htk:g.tk f dst with
  | true =>
   simp only [opE,htk,if_true,Option.some.injEq,Prod.mk.injEq] at h
   obtain ⟨rfl,rfl⟩:=h
   refine loc_t (fun e=>kil e x) rfl rfl (fun e t ht=>zhn fun hx=>ht ?_) (fun e e' _ t ht=>?_) fun σ' hR=>?_
   ·simp only [takesOf,htk,if_true];rw [zdc];exact (hk t).1 hx
   ·simp only [takesOf,htk,if_true] at ht;rw [zdc] at ht;rw [(hk t).2 ht];exact zpm
   ·have hx:=zbi (x:=x) hR (by simp [Op.operands])
    simp only [opE,htk,if_true,hx]
  | false =>
   simp only [opE,htk,Bool.false_eq_true,if_false,Option.some.injEq,Prod.mk.injEq] at h
   obtain ⟨rfl,rfl⟩:=h
   refine loc_p rfl (by simp only [takesOf,htk,Bool.false_eq_true,if_false]) rfl fun σ' hR=>?_
   have hx:=zbi (x:=x) hR (by simp [Op.operands])
   simp only [opE,htk,Bool.false_eq_true,if_false,hx]
 | assign x =>
  have hk:∀ t,x=.tmp t ↔ Operand.tmp t∈(Op.assign x).operands:=fun t=>by simp [Op.operands,eq_comm]
  simp only [opE,Option.some.injEq,Prod.mk.injEq] at h
  obtain ⟨rfl,rfl⟩:=h
  refine loc_t (fun e=>kil e x) rfl rfl (fun e t ht=>zhn fun hx=>ht ?_) (fun e e' _ t ht=>?_) fun σ' hR=>?_
  ·simp only [takesOf];rw [zdc];exact (hk t).1 hx
  ·simp only [takesOf] at ht;rw [zdc] at ht;rw [(hk t).2 ht];exact zpm
  ·have hx:=zbi (x:=x) hR (by simp [Op.operands])
   simp only [opE,hx]
 | pick c a b =>
  simp only [opE,bind,Option.bind_eq_some_iff,Option.some.injEq,Prod.mk.injEq] at h
  obtain ⟨t,ht,rfl,rfl⟩:=h
  refine loc_p rfl rfl rfl fun σ' hR=>?_
  have hc:=zbi (x:=c) hR (by simp [Op.operands])
  have ha:=zbi (x:=a) hR (by simp [Op.operands])
  have hb:=zbi (x:=b) hR (by simp [Op.operands])
  simp only [opE,bind,hc,ht,Option.bind_some]
  cases t <;> simp [ha,hb]
 | extract x i =>
  simp only [opE] at h
  cases x with
  | tmp t =>
   dsimp only at h
   cases he:σ.env t with
   | tu vs =>
    rw [he] at h
    simp only [bind,Option.bind_eq_some_iff] at h
    obtain ⟨⟨ag,cs⟩,hi,w,hw,h⟩:=h
    simp only [Option.some.injEq,Prod.mk.injEq] at h
    obtain ⟨rfl,rfl⟩:=h
    refine loc_t (fun e u=>if u=t then (match e t with | .tu vs=>(match vs[i]? with | some (ag,cs)=>.tu (vs.set i (ag,cs.map fun _=>.dead)) | none=>e t) | _=>e t) else e u) rfl ?_ (fun e u hu=>?_) (fun e e' hR u hu=>?_) fun σ' hR=>?_
    ·simp only [he,hi];rfl
    ·have hne:u≠t:=by rintro rfl;exact hu (by simp only [takesOf];rw [zdc];simp [Op.operands])
     simp [hne]
    ·simp only [takesOf] at hu
     rw [zdc] at hu
     have hut:u=t:=by simpa [Op.operands] using hu
     subst hut
     have:e' u=e u:=hR u (zlc hu)
     simp [this]
    ·have hx:σ'.env t=σ.env t:=hR t (zlc (by simp [Op.operands]))
     simp only [opE,hx,he,bind,hi,Option.bind_some,hw]
     rfl
   | one c=>rw [he] at h;cases h
   | ag cs=>rw [he] at h;cases h
  | _=>cases h
 | alloc e =>
  simp only [opE,bind,Option.bind_eq_some_iff] at h
  obtain ⟨i,hi,t,rfl,h⟩:=h
  split at h
  ·cases h
  ·rename_i hm
   simp only [Option.some.injEq,Prod.mk.injEq] at h
   obtain ⟨rfl,rfl⟩:=h
   obtain ⟨hm',htK⟩:σ.mem (d,t)=none∧¬ t=deepK:=by simpa using hm
   refine ⟨fun _ _=>rfl,⟨hm',_,rfl⟩,fun σ' hR hA=>?_⟩
   have hA':σ'.mem (d,t)=none:=hA
   refine ⟨{ σ' with mem:=upd σ'.mem (d,t) (some (i.zero.map C.ofValue)) },by simp [opE,hi,hA',htK],fun t ht=>by simp [takesOf] at ht,?_⟩
   show upd σ'.mem (d,t) _ (d,t)=upd σ.mem (d,t) _ (d,t)
   simp [upd]
 | box e x =>
  have hk:∀ t,x=.tmp t ↔ Operand.tmp t∈(Op.box e x).operands:=fun t=>by simp [Op.operands,eq_comm]
  simp only [opE,bind,Option.bind_eq_some_iff] at h
  obtain ⟨i,hi,t,rfl,cs,hcs,h⟩:=h
  split at h
  ·cases h
  ·rename_i hm
   simp only [Option.some.injEq,Prod.mk.injEq] at h
   obtain ⟨rfl,rfl⟩:=h
   obtain ⟨hm',htK⟩:σ.mem (d,t)=none∧¬ t=deepK:=by simpa using hm
   refine ⟨fun u hu=>zhn fun hx=>hu ?_,⟨hm',_,rfl⟩,fun σ' hR hA=>?_⟩
   ·simp only [takesOf];rw [zdc];exact (hk u).1 hx
   have hA':σ'.mem (d,t)=none:=hA
   have hx:=zbi (x:=x) hR (by simp [Op.operands])
   refine ⟨{ env:=kil σ'.env x,mem:=upd σ'.mem (d,t) (some cs) },by simp [opE,hi,hA',hx,hcs,htK],fun u hu=>?_,?_⟩
   ·simp only [takesOf] at hu;rw [zdc] at hu;rw [(hk u).2 hu];exact zpm
   show upd σ'.mem (d,t) _ (d,t)=upd σ.mem (d,t) _ (d,t)
   simp [upd]
 | load lt a =>
  have hE:∀ σ':St,(∀ t∈readsOf ops ⟨dst,.load lt a,ty,pos,after,guard⟩,σ'.env t=σ.env t)→opnd σ'.env a=opnd σ.env a:=fun σ' hR=>zbi (x:=a) hR (by simp [Op.operands])
  cases htk:g.tk f dst with
  | true =>
   have hc:clsOf g f ⟨dst,.load lt a,ty,pos,after,guard⟩=.t:=by simp [clsOf,htk]
   simp only [opE,htk,if_true,bind,Option.bind_eq_some_iff] at h
   have henv:σ1.env=σ.env:=by
    obtain ⟨i,hi,h⟩:=h
    split at h
    ·simp only [Option.bind_eq_some_iff] at h
     obtain ⟨_,_,_,_,h⟩:=h
     split at h
     ·cases h
     ·simp only [Option.bind_eq_some_iff,Option.some.injEq,Prod.mk.injEq] at h
      obtain ⟨_,_,_,rfl⟩:=h
      rfl
    ·simp only [Option.bind_eq_some_iff,Option.some.injEq,Prod.mk.injEq] at h
     obtain ⟨_,_,_,_,_,rfl⟩:=h
     rfl
    ·cases h
   have hrev:Rev σ1.mem σ.mem:=by
    obtain ⟨i,hi,h⟩:=h
    split at h
    ·rename_i k0 off0 _
     simp only [Option.bind_eq_some_iff] at h
     obtain ⟨cs,hcs,sg,hsg,h⟩:=h
     split at h
     ·cases h
     ·simp only [Option.bind_eq_some_iff,Option.some.injEq,Prod.mk.injEq] at h
      obtain ⟨_,_,_,rfl⟩:=h
      have hlen:sg.length=i.size∧off0+i.size≤cs.length:=by
       unfold seg at hsg
       split at hsg
       ·rename_i hle
        simp only [Option.some.injEq] at hsg
        subst hsg
        exact ⟨by rw [List.length_take,List.length_drop];omega,hle⟩
       ·cases hsg
      intro k' cs1 hk'
      simp only [upd] at hk'
      split at hk'
      ·rename_i he
       subst he
       simp only [Option.some.injEq] at hk'
       subst hk'
       refine ⟨cs,hcs,by unfold splice;simp only [List.length_append,List.length_take,List.length_drop,List.length_map,hlen.1];omega,fun j c hj hcd=>?_⟩
       rw [zdu _ _ _ (by rw [List.length_map,hlen.1];exact hlen.2),List.length_map,hlen.1] at hj
       by_cases hin:off0≤j∧j < off0+i.size
       ·rw [if_pos hin,List.getElem?_map] at hj
        cases hq:sg[j - _]? with
        | none=>rw [hq] at hj;cases hj
        | some q =>
         rw [hq] at hj
         simp only [Option.map_some,Option.some.injEq] at hj
         split at hj
         ·subst hj
          refine ⟨q,?_,(C.copy_twice q).symm⟩
          rw [← hq,(zil hsg).2.2 _ (by omega)]
          congr 1
          omega
         ·subst hj;cases hcd
       ·rw [if_neg hin] at hj;exact ⟨c,hj,rfl⟩
      ·exact ⟨cs1,hk',rfl,fun _ c h _=>⟨c,h,rfl⟩⟩
    ·simp only [Option.bind_eq_some_iff,Option.some.injEq,Prod.mk.injEq] at h
     obtain ⟨_,_,_,_,_,rfl⟩:=h
     exact Rev.refl _
    ·cases h
   refine ⟨fun t _=>by rw [henv],by rw [hc];exact hrev,fun σ' hR hA=>?_⟩
   rw [hc] at hA
   have hx:=hE σ' hR
   have hm:σ'.mem=σ.mem:=hA
   refine ⟨{ σ' with mem:=σ1.mem },?_,fun t ht=>by simp [takesOf] at ht,by rw [hc];rfl⟩
   obtain ⟨i,hi,h⟩:=h
   simp only [opE,htk,if_true,bind,hi,Option.bind_some,hx,hm]
   split at h
   ·rename_i hq
    simp only [Option.bind_eq_some_iff] at h
    obtain ⟨cs,hcs,sg,hsg,h⟩:=h
    split at h
    ·cases h
    ·rename_i hkd
     simp only [Option.bind_eq_some_iff,Option.some.injEq,Prod.mk.injEq] at h
     obtain ⟨v',hv,rfl,rfl⟩:=h
     simp only [hcs,hsg,Option.bind_some]
     rw [if_neg hkd,hv]
     rfl
   ·rename_i hq
    simp only [Option.bind_eq_some_iff,Option.some.injEq,Prod.mk.injEq] at h
    obtain ⟨sg,hsg,v',hv,rfl,rfl⟩:=h
    simp only [hsg,hv,Option.bind_some]
    simp only [← hm]
   ·cases h
  | false =>
   simp only [opE,htk,Bool.false_eq_true,if_false,bind,Option.bind_eq_some_iff] at h
   obtain ⟨i,hi,h⟩:=h
   split at h
   ·rename_i k off hq
    simp only [Option.bind_eq_some_iff] at h
    obtain ⟨cs,hcs,sg,hsg,h⟩:=h
    split at h
    ·rename_i hdd
     simp only [Option.bind_eq_some_iff,Option.some.injEq,Prod.mk.injEq] at h
     obtain ⟨v',hv,rfl,rfl⟩:=h
     refine loc_l (by simp [clsOf,htk]) rfl rfl fun σ' hR hA=>?_
     have hx:=hE σ' hR
     obtain ⟨cs',sg',hm,hsg',hmap,hal⟩:=hA.seg hcs hsg (by rw [Bool.and_eq_true] at hdd;exact hdd.1)
     have hdd':(sg'.all (fun c=>!c.isDead) && !awayB g d f dst k)=true:=by rw [Bool.and_eq_true] at hdd ⊢; exact ⟨hal,hdd.2⟩
     simp only [opE,htk,Bool.false_eq_true,if_false,bind,hi,Option.bind_some,hx,hq,hm,hsg',hmap,hv,hdd',if_true]
    ·cases h
   ·rename_i hq
    simp only [Option.bind_eq_some_iff,Option.some.injEq,Prod.mk.injEq] at h
    obtain ⟨sg,hsg,v',hv,rfl,rfl⟩:=h
    refine loc_l (by simp [clsOf,htk]) rfl rfl fun σ' hR hA=>?_
    have hx:=hE σ' hR
    simp only [opE,bind,hi,Option.bind_some,hx,hq,hsg,hv]
   ·cases h
 | store st a x =>
  have hk:∀ t,x=.tmp t→Operand.tmp t∈(Op.store st a x).operands:=fun t e=>by simp [Op.operands,e]
  simp only [opE,bind,Option.bind_eq_some_iff] at h
  obtain ⟨i,hi,h⟩:=h
  split at h
  ·rename_i k off hq
   simp only [Option.bind_eq_some_iff] at h
   obtain ⟨cs,hcs,new,hnew,h⟩:=h
   split at h
   ·rename_i hcond
    simp only [Option.some.injEq,Prod.mk.injEq] at h
    obtain ⟨rfl,rfl⟩:=h
    refine ⟨fun u hu=>zhn fun hx=>hu ?_,trivial,fun σ' hR hA=>?_⟩
    ·simp only [takesOf];rw [zdc];exact hk u hx
    ·have hm:σ'.mem=σ.mem:=hA
     have ha:=zbi (x:=a) hR (by simp [Op.operands])
     have hx:=zbi (x:=x) hR (by simp [Op.operands])
     refine ⟨{ env:=kil σ'.env x,mem:=upd σ.mem k (some (splice cs off new)) },by simp only [opE,bind,hi,Option.bind_some,ha,hq,hm,hcs,hx,hnew];rw [if_pos hcond],fun u hu=>?_,rfl⟩
     by_cases hxu:x=.tmp u
     ·rw [hxu];exact zpm
     ·show kil σ'.env x u=kil σ.env x u
      rw [zhn hxu,zhn hxu]
      simp only [takesOf] at hu;rw [zdc] at hu
      exact hR u (zlc hu)
   ·cases h
  ·cases h
 | nilCheck x =>
  simp only [opE] at h
  split at h
  all_goals first
   | cases h;done
   | (rename_i hq
      simp only [Option.some.injEq,Prod.mk.injEq] at h
      obtain ⟨rfl,rfl⟩:=h
      refine loc_p rfl rfl rfl fun σ' hR=>?_
      have hx:=zbi (x:=x) hR (by simp [Op.operands])
      simp only [opE,hx,hq])
 | lookup mt x k ok =>
  cases ok with
  | true=>simp [opE] at h
  | false =>
   simp only [opE] at h
   split at h
   ·rename_i kt e hu
    split at h
    ·rename_i hk
     rw [Option.map_eq_some_iff] at h
     obtain ⟨nc,hl,he⟩:=h
     simp only [Prod.mk.injEq] at he
     obtain ⟨rfl,rfl⟩:=he
     refine loc_p rfl rfl rfl fun σ' hR=>?_
     have h1:=zbi (x:=x) hR (by simp [Op.operands])
     have h2:=zbi (x:=k) hR (by simp [Op.operands])
     simp only [opE,hu,hk,h1,h2,hl,Option.map_some]
    ·cases h
   ·cases h
 | fieldAddr sx x fi =>
  simp only [opE,bind,Option.bind_eq_some_iff] at h
  obtain ⟨i,hi,fd,hfd,ti,hti,h⟩:=h
  split at h
  ·cases h
  ·rename_i hz
   split at h
   all_goals first
    | cases h;done
    | (rename_i hq
       simp only [Option.some.injEq,Prod.mk.injEq] at h
       obtain ⟨rfl,rfl⟩:=h
       refine loc_p rfl rfl rfl fun σ' hR=>?_
       have hx:=zbi (x:=x) hR (by simp [Op.operands])
       simp only [opE,hx,hq,bind,hi,hfd,hti,Option.bind_some,hz,if_false])
 | field sx x fi =>
  simp only [opE,bind,Option.bind_eq_some_iff] at h
  obtain ⟨i,hi,fd,hfd,ti,hti,h⟩:=h
  split at h
  ·rename_i hq
   simp only [Option.bind_eq_some_iff,Option.some.injEq,Prod.mk.injEq] at h
   obtain ⟨sg,hsg,v',hv,rfl,rfl⟩:=h
   refine loc_p rfl rfl rfl fun σ' hR=>?_
   have hx:=zbi (x:=x) hR (by simp [Op.operands])
   simp only [opE,hx,hq,bind,hi,hfd,hti,Option.bind_some,hsg,hv]
  ·cases h
 | indexAddr it x ix =>
  simp only [opE,bind,Option.bind_eq_some_iff] at h
  obtain ⟨i,hi,e,he,ei,hei,n,hn,h⟩:=h
  split at h
  ·rename_i hq
   split at h
   ·rename_i hc
    simp only [Option.some.injEq,Prod.mk.injEq] at h
    obtain ⟨rfl,rfl⟩:=h
    refine loc_p rfl rfl rfl fun σ' hR=>?_
    have hx:=zbi (x:=x) hR (by simp [Op.operands])
    have hix:=zbi (x:=ix) hR (by simp [Op.operands])
    simp only [opE,hx,hix,hq,bind,hi,he,hei,hn,Option.bind_some]
    rw [if_pos hc]
   ·cases h
  ·rename_i hq
   split at h
   ·rename_i hc
    simp only [Option.some.injEq,Prod.mk.injEq] at h
    obtain ⟨rfl,rfl⟩:=h
    refine loc_p rfl rfl rfl fun σ' hR=>?_
    have hx:=zbi (x:=x) hR (by simp [Op.operands])
    have hix:=zbi (x:=ix) hR (by simp [Op.operands])
    simp only [opE,hx,hix,hq,bind,hi,he,hei,hn,Option.bind_some]
    rw [if_pos hc]
   ·cases h
  ·cases h
 | build bt parts =>
  simp only [opE,bind,Option.bind_eq_some_iff] at h
  obtain ⟨i,hi,h⟩:=h
  split at h
  ·cases h
  rename_i hnd
  simp only [Option.bind_eq_some_iff] at h
  obtain ⟨ps,hps,h⟩:=h
  split at h
  ·cases h
  rename_i hfl
  simp only [Option.bind_eq_some_iff,Option.some.injEq,Prod.mk.injEq] at h
  obtain ⟨pl,hpl,cs,hcs,rfl,rfl⟩:=h
  refine loc_t (fun e=>parts.toList.foldl (fun e p=>kil e p.2) e) rfl rfl (fun e t ht=>zjh fun p hp hx=>ht ?_) (fun e e' _ t ht=>?_) fun σ' hR=>?_
  ·simp only [takesOf];rw [zdc];simp only [Op.operands,List.mem_toArray,List.mem_map];exact ⟨p,hp,hx⟩
  ·simp only [takesOf] at ht;rw [zdc] at ht;simp only [Op.operands,List.mem_toArray,List.mem_map] at ht
   obtain ⟨p,hp,hx⟩:=ht
   rw [zir ⟨p,hp,hx⟩,zir ⟨p,hp,hx⟩]
  ·have hx:∀ p∈parts.toList,opnd σ'.env p.2=opnd σ.env p.2:=fun p hp=>zbi hR (by simp only [Op.operands,List.mem_toArray,List.mem_map];exact ⟨p,hp,rfl⟩)
   have hps':(parts.toList.mapM fun p=>(opnd σ'.env p.2).cells.map fun cs=>(p.1,cs))=some ps:=by
    rw [← hps];exact mapM_congr' fun p hp=>by rw [hx p hp]
   simp only [opE,bind,hi,Option.bind_some,hnd,if_false,Bool.false_eq_true,hps',hfl,hpl,hcs]
 | buildSlice bt len parts =>
  simp only [opE,bind,Option.bind_eq_some_iff] at h
  obtain ⟨i,hi,e,he,ei,hei,h⟩:=h
  split at h
  ·cases h
  rename_i hz
  split at h
  ·cases h
  rename_i hz2
  split at h
  ·cases h
  rename_i hnd
  simp only [Option.bind_eq_some_iff,Option.some.injEq,Prod.mk.injEq] at h
  obtain ⟨ps,hps,cs,hcs,m,hm,ds,hds,rfl,rfl⟩:=h
  refine loc_t (fun e=>parts.toList.foldl (fun e p=>kil e p.2) e) rfl rfl (fun e t ht=>zjh fun p hp hx=>ht ?_) (fun e e' _ t ht=>?_) fun σ' hR=>?_
  ·simp only [takesOf];rw [zdc];simp only [Op.operands,List.mem_toArray,List.mem_map];exact ⟨p,hp,hx⟩
  ·simp only [takesOf] at ht;rw [zdc] at ht;simp only [Op.operands,List.mem_toArray,List.mem_map] at ht
   obtain ⟨p,hp,hx⟩:=ht
   rw [zir ⟨p,hp,hx⟩,zir ⟨p,hp,hx⟩]
  ·have hx:∀ p∈parts.toList,opnd σ'.env p.2=opnd σ.env p.2:=fun p hp=>zbi hR (by simp only [Op.operands,List.mem_toArray,List.mem_map];exact ⟨p,hp,rfl⟩)
   have hps':(parts.toList.mapM fun p=>(opnd σ'.env p.2).cells.map fun cs=>(p.1,cs))=some ps:=by
    rw [← hps];exact mapM_congr' fun p hp=>by rw [hx p hp]
   simp only [opE,bind,hi,he,hei,Option.bind_some,hz,hz2,hnd,if_false,Bool.false_eq_true,hps',hcs,hm,hds]
 | slice st x lo hi mx =>
  cases mx with
  | some m=>simp [opE] at h
  | none =>
   have hX:∀ σ':St,(∀ t∈readsOf ops ⟨dst,.slice st x lo hi none,ty,pos,after,guard⟩,σ'.env t=σ.env t) →
    opnd σ'.env x=opnd σ.env x∧loOf lo σ'.env=loOf lo σ.env∧(∀ n,hiOf hi σ'.env n=hiOf hi σ.env n)∧scalarOp g.P σ'.env ⟨dst,.slice st x lo hi none,ty,pos,after,guard⟩=scalarOp g.P σ.env ⟨dst,.slice st x lo hi none,ty,pos,after,guard⟩:=by
    intro σ' hR
    have hall:∀ y∈(Op.slice st x lo hi none).operands,opnd σ'.env y=opnd σ.env y:=fun y hy=>zbi hR hy
    refine ⟨hall x (by simp [Op.operands]),?_,fun n=>?_,zfp hall fun ρ ρ' hρ=>?_⟩
    ·cases lo with
     | none=>rfl
     | some y=>simp only [loOf,hall y (by simp [Op.operands])]
    ·cases hi with
     | none=>rfl
     | some y=>simp only [hiOf,hall y (by simp [Op.operands])]
    ·have h1:ρ' x=ρ x:=hρ x (by simp [Op.operands])
     have h2:lo.map ρ'=lo.map ρ:=by
      cases lo with
      | none=>rfl
      | some y=>simp [hρ y (by simp [Op.operands])]
     have h3:hi.map ρ'=hi.map ρ:=by
      cases hi with
      | none=>rfl
      | some y=>simp [hρ y (by simp [Op.operands])]
     simp only [execOp,h1,h2,h3]
     rfl
   simp only [opE,bind] at h
   split at h
   ·rename_i hq
    simp only [Option.bind_eq_some_iff] at h
    obtain ⟨i,hi',e,he,ei,hei,l,hl,hh,hhh,h⟩:=h
    split at h
    ·rename_i hc
     simp only [Option.some.injEq,Prod.mk.injEq] at h
     obtain ⟨rfl,rfl⟩:=h
     refine loc_p rfl rfl rfl fun σ' hR=>?_
     obtain ⟨h1,h2,h3,h4⟩:=hX σ' hR
     simp only [opE,bind,h1,hq,hi',he,hei,Option.bind_some,h2,hl,h3,hhh]
     rw [if_pos hc]
    ·cases h
   ·rename_i hq
    simp only [Option.bind_eq_some_iff,Option.some.injEq,Prod.mk.injEq] at h
    obtain ⟨u,hu,rfl,rfl⟩:=h
    refine loc_p rfl rfl rfl fun σ' hR=>?_
    obtain ⟨h1,h2,h3,h4⟩:=hX σ' hR
    simp only [opE,bind,h1]
    rw [h4,hu]
    rfl
 | makeFunc fn first caps =>
  cases fn with
  | func k =>
   simp only [opE,bind] at h
   split at h
   ·rename_i hf
    simp only [Option.bind_eq_some_iff,Option.some.injEq,Prod.mk.injEq] at h
    obtain ⟨cs,hcs,rfl,rfl⟩:=h
    refine loc_p rfl rfl rfl fun σ' hR=>?_
    simp only [opE,bind]
    rw [if_pos hf,Option.bind_eq_some_iff]
    refine ⟨cs,?_,rfl⟩
    rw [← hcs]
    refine mapM_congr' fun x hx=>?_
    rw [zbi hR (by simp only [Op.operands];exact Array.mem_append_right _ (by simpa using hx))]
   ·cases h
  | _=>simp [opE] at h
 | makeSlice mt l c =>
  simp only [opE,bind,Option.bind_eq_some_iff] at h
  obtain ⟨i,hi,e,he,ei,hei,n,hn,cp,hcp,h⟩:=h
  split at h
  ·cases h
  rename_i hz
  split at h
  ·rename_i hc
   have h1:∀ σ':St,(∀ t∈readsOf ops ⟨dst,.makeSlice mt l c,ty,pos,after,guard⟩,σ'.env t=σ.env t)→opnd σ'.env l=opnd σ.env l∧opnd σ'.env c=opnd σ.env c:=fun σ' hR =>
    ⟨zbi (x:=l) hR (by simp [Op.operands]),zbi (x:=c) hR (by simp [Op.operands])⟩
   cases htk:g.tk f dst with
   | true =>
    have hcl:clsOf g f ⟨dst,.makeSlice mt l c,ty,pos,after,guard⟩=.a:=by simp [clsOf,htk]
    simp only [htk,if_true,Option.bind_eq_some_iff] at h
    obtain ⟨t,ht,h⟩:=h
    split at h
    ·cases h
    ·rename_i hm
     simp only [Option.some.injEq,Prod.mk.injEq] at h
     obtain ⟨rfl,rfl⟩:=h
     obtain ⟨hm',htK⟩:σ.mem (d,t)=none∧¬ t=deepK:=by simpa using hm
     subst ht
     refine ⟨fun _ _=>rfl,by rw [hcl];exact ⟨hm',_,rfl⟩,fun σ' hR hA=>?_⟩
     rw [hcl] at hA ⊢
     have hA':σ'.mem (d,t)=none:=hA
     obtain ⟨e1,e2⟩:=h1 σ' hR
     refine ⟨{ σ' with mem:=upd σ'.mem (d,t) (some ((List.replicate n.toNat (ei.zero.map C.ofValue)).flatten)) },?_,fun t ht=>by simp [takesOf] at ht,?_⟩
     ·simp only [opE,bind,hi,he,hei,e1,e2,hn,hcp,Option.bind_some,htk,if_true,hA',Option.isSome_none,Bool.false_or,beq_eq_false_iff_ne.2 htK,Bool.false_eq_true,if_false]
      rw [if_neg hz,if_pos hc]
     ·show upd σ'.mem (d,t) _ (d,t)=upd σ.mem (d,t) _ (d,t)
      simp [upd]
   | false =>
    simp only [htk,Bool.false_eq_true,if_false,Option.bind_eq_some_iff,Option.some.injEq,Prod.mk.injEq] at h
    obtain ⟨zd,hzd,rfl,rfl⟩:=h
    refine loc_p (by simp [clsOf,htk]) rfl rfl fun σ' hR=>?_
    obtain ⟨e1,e2⟩:=h1 σ' hR
    simp only [opE,bind,hi,he,hei,e1,e2,hn,hcp,Option.bind_some,htk,Bool.false_eq_true,if_false]
    rw [if_neg hz,if_pos hc,hzd]
    rfl
  ·cases h
 | call cl =>
  obtain ⟨callee,args,argTypes⟩:=cl
  cases callee with
  | value _=>simp [opE] at h
  | invoke _ _=>simp [opE] at h
  | builtin bi =>
   have hall:∀ σ':St,(∀ t∈readsOf ops ⟨dst,.call ⟨.builtin bi,args,argTypes⟩,ty,pos,after,guard⟩,σ'.env t=σ.env t)→∀ y∈args.toList,opnd σ'.env y=opnd σ.env y :=
    fun σ' hR y hy=>zbi hR (by simp only [Op.operands,Call.operands];exact Array.mem_append_right _ (by simpa using hy))
   have hsc:∀ σ':St,(∀ t∈readsOf ops ⟨dst,.call ⟨.builtin bi,args,argTypes⟩,ty,pos,after,guard⟩,σ'.env t=σ.env t) →
    scalarOp g.P σ'.env ⟨dst,.call ⟨.builtin bi,args,argTypes⟩,ty,pos,after,guard⟩=scalarOp g.P σ.env ⟨dst,.call ⟨.builtin bi,args,argTypes⟩,ty,pos,after,guard⟩:=by
    intro σ' hR
    refine zfp (fun y hy=>zbi hR hy) fun ρ ρ' hρ=>?_
    have:args.map ρ'=args.map ρ:=Array.map_congr_left fun y hy=>hρ y (by simp only [Op.operands,Call.operands];exact Array.mem_append_right _ hy)
    simp only [execOp,resolve,this]
   have hsplit:∀ y:Option Value,True:=fun _=>trivial
   cases bi with
   | len =>
    simp only [opE,bind] at h
    split at h
    ·rename_i hq
     simp only [Option.bind_eq_some_iff,Option.some.injEq,Prod.mk.injEq] at h
     obtain ⟨t,ht,i,hi,e,he,rfl,rfl⟩:=h
     refine loc_p rfl rfl rfl fun σ' hR=>?_
     have h1:args.toList.map (opnd σ'.env)=args.toList.map (opnd σ.env):=List.map_congr_left (hall σ' hR)
     simp only [opE,bind,h1,hq,ht,hi,he,Option.bind_some]
    ·rename_i hq
     simp only [Option.bind_eq_some_iff,Option.some.injEq,Prod.mk.injEq] at h
     obtain ⟨t,ht,i,hi,e,he,rfl,rfl⟩:=h
     refine loc_p rfl rfl rfl fun σ' hR=>?_
     have h1:args.toList.map (opnd σ'.env)=args.toList.map (opnd σ.env):=List.map_congr_left (hall σ' hR)
     simp only [opE,bind,h1,hq,ht,hi,he,Option.bind_some]
    ·rename_i hq
     simp only [Option.bind_eq_some_iff,Option.some.injEq,Prod.mk.injEq] at h
     obtain ⟨u,hu,rfl,rfl⟩:=h
     refine loc_p rfl rfl rfl fun σ' hR=>?_
     have h1:args.toList.map (opnd σ'.env)=args.toList.map (opnd σ.env):=List.map_congr_left (hall σ' hR)
     simp only [opE,bind,h1]
     rw [hsc σ' hR,hu]
     rfl
   | append =>
    simp only [opE,bind] at h
    split at h
    ·rename_i x y hxy
     simp only [Option.bind_eq_some_iff] at h
     obtain ⟨t,ht,i,hi,e,he,ei,hei,h⟩:=h
     split at h
     ·cases h
     rename_i hc
     split at h
     ·rename_i hqx hqy
      split at h
      ·cases h
      rename_i hm
      split at h
      ·cases h
      rename_i hb
      simp only [Option.bind_eq_some_iff,Option.some.injEq,Prod.mk.injEq] at h
      obtain ⟨m',hm',rfl,rfl⟩:=h
      have hmx:x∈args.toList:=by rw [hxy];simp
      have hmy:y∈args.toList:=by rw [hxy];simp
      have hop:∀ z∈args.toList,z∈(Op.call ⟨.builtin .append,args,argTypes⟩).operands:=fun z hz=>by simp only [Op.operands,Call.operands];exact Array.mem_append_right _ (by simpa using hz)
      refine loc_t (fun e=>kil (kil e x) y) rfl rfl (fun e t ht=>?_) (fun e e' _ t ht=>?_) fun σ' hR=>?_
      ·have hx:x≠.tmp t:=fun hx=>ht (by simp only [takesOf];rw [zdc];rw [← hx];exact hop x hmx)
       have hy:y≠.tmp t:=fun hy=>ht (by simp only [takesOf];rw [zdc];rw [← hy];exact hop y hmy)
       rw [zhn hy,zhn hx]
      ·simp only [takesOf] at ht;rw [zdc] at ht
       simp only [Op.operands,Call.operands,Array.mem_append] at ht
       have ht:Operand.tmp t∈args.toList:=by simpa using ht
       rw [hxy] at ht
       simp only [List.mem_cons,List.not_mem_nil,or_false] at ht
       by_cases hy:y=.tmp t
       ·rw [hy];exact zpm
       ·have hx:x=.tmp t:=by rcases ht with ht | ht;exact ht.symm;exact absurd ht.symm hy
        rw [zhn hy,zhn hy,hx];exact zpm
      ·have h1:=hall σ' hR x hmx
       have h2:=hall σ' hR y hmy
       simp only [opE,bind,hxy,ht,hi,he,hei,Option.bind_some,h1,h2,hqx,hqy]
       rw [if_neg hc,if_neg hm,if_neg hb,hm']
       rfl
     ·cases h
    ·cases h
   | _ =>
    simp only [opE,bind,Option.bind_eq_some_iff,Option.some.injEq,Prod.mk.injEq] at h
    obtain ⟨u,hu,rfl,rfl⟩:=h
    refine loc_p rfl rfl rfl fun σ' hR=>?_
    simp only [opE,bind,hsc σ' hR,hu,Option.bind_some]
 | binOp b xt x y yt =>
  simp only [opE,bind,Option.bind_eq_some_iff,Option.some.injEq,Prod.mk.injEq] at h
  obtain ⟨u,hu,rfl,rfl⟩:=h
  refine loc_p rfl rfl rfl fun σ' hR=>?_
  have:=zfp (P:=g.P) (o:=⟨dst,.binOp b xt x y yt,ty,pos,after,guard⟩) (fun y hy=>zbi hR hy) fun ρ ρ' hρ=>by
   simp only [execOp,hρ x (by simp [Op.operands]),hρ y (by simp [Op.operands])]
  simp only [opE,bind,this,hu,Option.bind_some]
 | unOp b xt x =>
  simp only [opE,bind,Option.bind_eq_some_iff,Option.some.injEq,Prod.mk.injEq] at h
  obtain ⟨u,hu,rfl,rfl⟩:=h
  refine loc_p rfl rfl rfl fun σ' hR=>?_
  have:=zfp (P:=g.P) (o:=⟨dst,.unOp b xt x,ty,pos,after,guard⟩) (fun y hy=>zbi hR hy) fun ρ ρ' hρ=>by
   simp only [execOp,hρ x (by simp [Op.operands])]
  simp only [opE,bind,this,hu,Option.bind_some]
 | convert b xt x =>
  simp only [opE,bind,Option.bind_eq_some_iff,Option.some.injEq,Prod.mk.injEq] at h
  obtain ⟨u,hu,rfl,rfl⟩:=h
  refine loc_p rfl rfl rfl fun σ' hR=>?_
  have:=zfp (P:=g.P) (o:=⟨dst,.convert b xt x,ty,pos,after,guard⟩) (fun y hy=>zbi hR hy) fun ρ ρ' hρ=>by
   simp only [execOp,hρ x (by simp [Op.operands])]
  simp only [opE,bind,this,hu,Option.bind_some]
 | index xt x ix =>
  simp only [opE,bind,Option.bind_eq_some_iff,Option.some.injEq,Prod.mk.injEq] at h
  obtain ⟨u,hu,rfl,rfl⟩:=h
  refine loc_p rfl rfl rfl fun σ' hR=>?_
  have:=zfp (P:=g.P) (o:=⟨dst,.index xt x ix,ty,pos,after,guard⟩) (fun y hy=>zbi hR hy) fun ρ ρ' hρ=>by
   simp only [execOp,hρ x (by simp [Op.operands]),hρ ix (by simp [Op.operands])]
  simp only [opE,bind,this,hu,Option.bind_some]
 | _=>simp [opE] at h

end Go.Ev

