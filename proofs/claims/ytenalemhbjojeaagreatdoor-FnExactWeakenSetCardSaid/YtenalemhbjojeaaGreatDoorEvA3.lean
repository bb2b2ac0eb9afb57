import Derived.Test.YtenalemhbjojeaaGreatDoorEvA2
set_option linter.unusedSimpArgs false
set_option linter.unusedVariables false
set_option linter.unnecessarySimpa false
noncomputable section
namespace Go.Ev

def Rev (m1 m:Mem):Prop:=∀ k cs1,m1 k=some cs1→∃ cs,m k=some cs∧cs.length=cs1.length∧∀ (i:Nat) c,cs1[i]?=some c→c.isDead=false→∃ c',cs[i]?=some c'∧c'.copy=c.copy
theorem Rev.refl (m:Mem):Rev m m:=fun _ cs h=>⟨cs,h,rfl,fun _ c h _=>⟨c,h,rfl⟩⟩
theorem isDead_copy (c:C):c.copy.isDead=c.isDead:=by cases c <;> rfl
theorem Rev.seg {m1 m:Mem} (h:Rev m1 m) {k:Key} {cs1:List C} (hk:m1 k=some cs1) {off n:Nat} {sg:List C} (hs:Ev.seg cs1 off n=some sg) (hd:sg.all (fun c=>!c.isDead)=true) :
 ∃ cs sg',m k=some cs∧Ev.seg cs off n=some sg'∧sg'.map C.copy=sg.map C.copy∧sg'.all (fun c=>!c.isDead)=true:=by
 obtain ⟨cs,hc,hl,hi⟩:=h k cs1 hk
 unfold Ev.seg at hs
 split at hs
 ·rename_i hle
  simp only [Option.some.injEq] at hs
  have hmap:((cs.drop off).take n).map C.copy=sg.map C.copy:=by
   rw [← hs]
   apply List.ext_getElem?
   intro i
   rw [List.getElem?_map,List.getElem?_map,List.getElem?_take,List.getElem?_take]
   by_cases hin:i < n
   ·rw [if_pos hin,if_pos hin,List.getElem?_drop,List.getElem?_drop]
    have hx:cs1[off+i]?=some cs1[off+i]:=List.getElem?_eq_getElem (by omega)
    have hm:cs1[off+i]∈sg:=by
     rw [← hs]
     refine List.mem_of_getElem? (i:=i) ?_
     rw [List.getElem?_take,if_pos hin,List.getElem?_drop,hx]
    rw [List.all_eq_true] at hd
    obtain ⟨c',h1,h2⟩:=hi _ _ hx (by simpa using hd _ hm)
    rw [hx,h1,Option.map_some,Option.map_some,h2]
   ·rw [if_neg hin,if_neg hin]
  refine ⟨cs,(cs.drop off).take n,hc,by unfold Ev.seg;rw [if_pos (by omega)],hmap,?_⟩
  have hall:∀ l:List C,l.all (fun c=>!c.isDead)=(l.map C.copy).all (fun c=>!c.isDead):=fun l=>by
   rw [List.all_map]
   congr 1
   funext c
   simp only [Function.comp_apply,isDead_copy]
  rw [hall,hmap,← hall]
  exact hd
 ·cases hs

def agreeM:Cls→Key→Mem→Mem→Prop
 | .p,_,_,_=>True
 | .l,_,m,m'=>Rev m m'
 | .a,key,_,m'=>m' key=none
 | .m,_,m,m'=>m'=m
 | .t,_,m,m'=>m'=m

def effM:Cls→Key→Mem→Mem→Prop
 | .p,_,m,m1=>m1=m
 | .l,_,m,m1=>m1=m
 | .a,key,m,m1=>m key=none∧∃ cs,m1=upd m key cs
 | .m,_,_,_=>True
 | .t,_,m,m1=>Rev m1 m

def sameM:Cls→Key→Mem→Mem→Prop
 | .a,key,m1,m1'=>m1' key=m1 key
 | .m,_,m1,m1'=>m1'=m1
 | .t,_,m1,m1'=>m1'=m1
 | _,_,_,_=>True

structure Local (S:St→Option St) (R W:List Nat) (c:Cls) (key:Key):Prop where
 env:∀ σ σ1,S σ=some σ1→∀ t,t ∉ W→σ1.env t=σ.env t
 mem:∀ σ σ1,S σ=some σ1→effM c key σ.mem σ1.mem
 ext:∀ σ σ1 σ',S σ=some σ1→(∀ t∈R,σ'.env t=σ.env t)→agreeM c key σ.mem σ'.mem →
  ∃ σ1',S σ'=some σ1'∧(∀ t∈W,σ1'.env t=σ1.env t)∧sameM c key σ1.mem σ1'.mem

theorem St.ext' {σ τ:St} (h1:∀ t,σ.env t=τ.env t) (h2:σ.mem=τ.mem):σ=τ:=by
 cases σ;cases τ
 simp only at h1 h2
 subst h2
 congr 1
 exact funext h1

theorem swap {Sx Sy:St→Option St} {Rx Wx Ry Wy:List Nat} {cx cy:Cls} {kx ky:Key} (hx:Local Sx Rx Wx cx kx) (hy:Local Sy Ry Wy cy ky)
 (h1:∀ t∈Wx,t ∉ Ry) (h2:∀ t∈Wx,t ∉ Wy) (h3:∀ t∈Rx,t ∉ Wy) (hc:clsOK cx cy=true) (hk:cx=.a→cy=.a→kx≠ky) {σ σ1 σ2:St} (hs1:Sx σ=some σ1) (hs2:Sy σ1=some σ2) :
 ∃ σ1',Sy σ=some σ1'∧Sx σ1'=some σ2:=by
 have e1:=hx.env σ σ1 hs1
 have m1:=hx.mem σ σ1 hs1
 have e2:=hy.env σ1 σ2 hs2
 have m2:=hy.mem σ1 σ2 hs2

 have ay:agreeM cy ky σ1.mem σ.mem:=by
  cases cy with
  | p=>trivial
  | l =>
   show Rev σ1.mem σ.mem
   cases cx with
   | p=>simp only [effM] at m1;rw [m1];exact Rev.refl _
   | l=>simp only [effM] at m1;rw [m1];exact Rev.refl _
   | a=>simp [clsOK] at hc
   | m=>simp [clsOK] at hc
   | t=>exact m1
  | t =>
   cases cx with
   | p=>simp only [effM] at m1;exact m1.symm
   | _=>simp [clsOK] at hc
  | a =>
   simp only [effM] at m2
   show σ.mem ky=none
   cases cx with
   | p=>simp only [effM] at m1;rw [← m1];exact m2.1
   | l=>simp only [effM] at m1;rw [← m1];exact m2.1
   | a =>
    obtain ⟨_,cs,hcs⟩:=m1
    have:=m2.1
    rw [hcs] at this
    have hne:ky≠kx:=fun e=>hk rfl rfl e.symm
    simpa [upd,hne] using this
   | m=>simp [clsOK] at hc
   | t=>simp [clsOK] at hc
  | m =>
   cases cx with
   | p=>simp only [effM] at m1;exact m1.symm
   | l=>simp [clsOK] at hc
   | a=>simp [clsOK] at hc
   | m=>simp [clsOK] at hc
   | t=>simp [clsOK] at hc
 obtain ⟨σ1',hy',ew,mw⟩:=hy.ext σ1 σ2 σ hs2 (fun t ht=>(e1 t (fun hw=>h1 t hw ht)).symm) ay
 have e1':=hy.env σ σ1' hy'
 have m1':=hy.mem σ σ1' hy'
 have ax:agreeM cx kx σ.mem σ1'.mem:=by
  cases cx with
  | p=>trivial
  | l =>
   show Rev σ.mem σ1'.mem
   cases cy with
   | p=>simp only [effM] at m1';rw [m1'];exact Rev.refl _
   | l=>simp only [effM] at m1';rw [m1'];exact Rev.refl _
   | a =>
    obtain ⟨hn,cs,hcs⟩:=m1'
    intro k ks hkn
    have hne:k≠ky:=fun e=>by subst e;rw [hn] at hkn;cases hkn
    rw [hcs]
    exact ⟨ks,by simp [upd,hne,hkn],rfl,fun _ c h _=>⟨c,h,rfl⟩⟩
   | m=>simp [clsOK] at hc
   | t=>simp [clsOK] at hc
  | t =>
   cases cy with
   | p=>simp only [effM] at m1';exact m1'
   | l=>simp only [effM] at m1';exact m1'
   | _=>simp [clsOK] at hc
  | a =>
   show σ1'.mem kx=none
   have hn:=m1.1
   cases cy with
   | p=>simp only [effM] at m1';rw [m1'];exact hn
   | l=>simp [clsOK] at hc
   | a =>
    obtain ⟨_,cs,hcs⟩:=m1'
    rw [hcs]
    have hne:kx≠ky:=hk rfl rfl
    simpa [upd,hne] using hn
   | m=>simp [clsOK] at hc
   | t=>simp [clsOK] at hc
  | m =>
   cases cy with
   | p=>simp only [effM] at m1';exact m1'
   | l=>simp [clsOK] at hc
   | a=>simp [clsOK] at hc
   | m=>simp [clsOK] at hc
   | t=>simp [clsOK] at hc
 obtain ⟨σ2',hx',ew2,mw2⟩:=hx.ext σ σ1 σ1' hs1 (fun t ht=>e1' t (h3 t ht)) ax
 have e2':=hx.env σ1' σ2' hx'
 have m2':=hx.mem σ1' σ2' hx'
 refine ⟨σ1',hy',?_⟩
 rw [hx']
 congr 1
 refine St.ext' (fun t=>?_) ?_
 ·by_cases hwx:t∈Wx
  ·rw [ew2 t hwx,e2 t (h2 t hwx)]
  ·rw [e2' t hwx]
   by_cases hwy:t∈Wy
   ·exact ew t hwy
   ·rw [e1' t hwy,e2 t hwy,e1 t hwx]
 ·cases cx with
  | p =>
   simp only [effM] at m1 m2'
   rw [m2']
   cases cy with
   | p=>simp only [effM] at m1' m2;rw [m1',m2,m1]
   | l=>simp only [effM] at m1' m2;rw [m1',m2,m1]
   | a =>
    obtain ⟨_,cs,hcs⟩:=m1'
    obtain ⟨_,cs2,hcs2⟩:=m2
    simp only [sameM] at mw
    rw [hcs,hcs2] at mw ⊢
    simp only [upd,if_true] at mw
    rw [m1,mw]
   | m=>exact mw
   | t=>exact mw
  | l =>
   simp only [effM] at m1 m2'
   rw [m2']
   cases cy with
   | p=>simp only [effM] at m1' m2;rw [m1',m2,m1]
   | l=>simp only [effM] at m1' m2;rw [m1',m2,m1]
   | a =>
    obtain ⟨_,cs,hcs⟩:=m1'
    obtain ⟨_,cs2,hcs2⟩:=m2
    simp only [sameM] at mw
    rw [hcs,hcs2] at mw ⊢
    simp only [upd,if_true] at mw
    rw [m1,mw]
   | m=>simp [clsOK] at hc
   | t=>simp [clsOK] at hc
  | a =>
   obtain ⟨_,c1,hc1⟩:=m1
   obtain ⟨_,c2,hc2⟩:=m2'
   simp only [sameM] at mw2
   rw [hc1,hc2] at mw2
   simp only [upd,if_true] at mw2
   subst mw2
   cases cy with
   | p=>simp only [effM] at m1' m2;rw [hc2,m1',m2,hc1]
   | l=>simp [clsOK] at hc
   | a =>
    obtain ⟨_,c3,hc3⟩:=m1'
    obtain ⟨_,c4,hc4⟩:=m2
    simp only [sameM] at mw
    rw [hc3,hc4] at mw
    simp only [upd,if_true] at mw
    subst mw
    rw [hc2,hc3,hc4,hc1]
    have hne:kx≠ky:=hk rfl rfl
    funext k
    unfold upd
    by_cases h1:k=kx
    ·subst h1;simp [hne]
    ·simp [h1]
   | m=>simp [clsOK] at hc
   | t=>simp [clsOK] at hc
  | m =>
   cases cy with
   | p=>simp only [effM] at m1' m2;simp only [sameM] at mw2;rw [mw2,m2]
   | l=>simp [clsOK] at hc
   | a=>simp [clsOK] at hc
   | m=>simp [clsOK] at hc
   | t=>simp [clsOK] at hc
  | t =>
   cases cy with
   | p=>simp only [effM] at m1' m2;simp only [sameM] at mw2;rw [mw2,m2]
   | l=>simp only [effM] at m1' m2;simp only [sameM] at mw2;rw [mw2,m2]
   | _=>simp [clsOK] at hc

theorem zlk {ops:Array Oper} {o:Oper} {t:Nat} (h:Operand.tmp t∈o.op.operands):t∈readsOf ops o:=by
 unfold readsOf
 exact List.mem_append_left _ (List.mem_filterMap.2 ⟨.tmp t,by simpa using h,rfl⟩)

theorem zbc {ops:Array Oper} {o:Oper} {σ σ':St} (h:∀ t∈readsOf ops o,σ'.env t=σ.env t) {x:Operand} (hx:x∈o.op.operands):opnd σ'.env x=opnd σ.env x:=by
 cases x with
 | tmp t=>exact h t (zlk hx)
 | _=>rfl

theorem wants_eq {ops:Array Oper} {o:Oper} {σ σ':St} (h:∀ t∈readsOf ops o,σ'.env t=σ.env t):wants ops σ'.env o=wants ops σ.env o:=by
 unfold wants
 cases hg:o.guard with
 | none=>rfl
 | some jb =>
  obtain ⟨j,b⟩:=jb
  cases ht:(ops[j]?).bind (·.dst) with
  | none=>dsimp only;rw [ht];rfl
  | some t =>
   have:t∈readsOf ops o:=by
    unfold readsOf
    rw [hg]
    exact List.mem_append_right _ (by simp only [ht];simp)
   dsimp only
   rw [ht]
   simp only [Option.bind_some,h t this]

theorem zgq {env:Nat→AV} {x:Operand} {t:Nat} (h:x≠.tmp t):kil env x t=env t:=by
 cases x with
 | tmp u=>simp only [kil,upd];rw [if_neg];rintro rfl;exact h rfl
 | _=>rfl
theorem zqf {env env':Nat→AV} {t:Nat}:kil env (.tmp t) t=kil env' (.tmp t) t:=by simp [kil,upd]

theorem zha {env:Nat→AV} {dst:Option Nat} {v:AV} {t:Nat} (h:dst≠some t):putD env dst v t=env t:=by
 cases dst with
 | none=>rfl
 | some u=>simp only [putD,upd];rw [if_neg];rintro rfl;exact h rfl

def takesOf (g:Cfg) (f:Nat) (o:Oper):List Nat :=
 let ts:=o.op.operands.toList.filterMap fun | .tmp t=>some t | _=>none
 match o.op with
 | .move _=>if g.tk f o.dst then ts else []
 | .assign _ | .extract .. | .box .. | .store .. | .build .. | .buildSlice ..=>ts
 | .call { callee:=.builtin .append,.. }=>ts
 | _=>[]

theorem zhn (g:Cfg) (f:Nat) (o:Oper):writesOf g f o=o.dst.toList ++ takesOf g f o:=rfl

def LocalOp (g:Cfg) (d f:Nat) (ops:Array Oper) (o:Oper) (σ σ1:St) (v:AV):Prop :=
 (∀ t,t ∉ takesOf g f o→σ1.env t=σ.env t)∧effM (clsOf g f o) (d,o.dst.getD 0) σ.mem σ1.mem ∧
 ∀ σ',(∀ t∈readsOf ops o,σ'.env t=σ.env t)→agreeM (clsOf g f o) (d,o.dst.getD 0) σ.mem σ'.mem →
  ∃ σ1',opE g d f o σ'=some (v,σ1')∧(∀ t∈takesOf g f o,σ1'.env t=σ1.env t)∧sameM (clsOf g f o) (d,o.dst.getD 0) σ1.mem σ1'.mem

theorem loc_p {g:Cfg} {d f:Nat} {ops:Array Oper} {o:Oper} {σ σ1:St} {v:AV} (hc:clsOf g f o=.p) (ht:takesOf g f o=[]) (h1:σ1=σ)
 (h2:∀ σ',(∀ t∈readsOf ops o,σ'.env t=σ.env t)→opE g d f o σ'=some (v,σ')):LocalOp g d f ops o σ σ1 v:=by
 subst h1
 refine ⟨fun _ _=>rfl,by rw [hc];rfl,fun σ' hR _=>⟨σ',h2 σ' hR,by rw [ht];simp,by rw [hc];trivial⟩⟩

theorem loc_l {g:Cfg} {d f:Nat} {ops:Array Oper} {o:Oper} {σ σ1:St} {v:AV} (hc:clsOf g f o=.l) (ht:takesOf g f o=[]) (h1:σ1=σ)
 (h2:∀ σ',(∀ t∈readsOf ops o,σ'.env t=σ.env t)→Rev σ.mem σ'.mem→opE g d f o σ'=some (v,σ')):LocalOp g d f ops o σ σ1 v:=by
 subst h1
 refine ⟨fun _ _=>rfl,by rw [hc];rfl,fun σ' hR hA=>?_⟩
 rw [hc] at hA
 exact ⟨σ',h2 σ' hR hA,by rw [ht];simp,by rw [hc];trivial⟩

theorem loc_t {g:Cfg} {d f:Nat} {ops:Array Oper} {o:Oper} {σ σ1:St} {v:AV} (E:(Nat→AV)→Nat→AV) (hc:clsOf g f o=.p) (h1:σ1={ σ with env:=E σ.env })
 (he:∀ e t,t ∉ takesOf g f o→E e t=e t) (hi:∀ e e',(∀ t∈readsOf ops o,e' t=e t)→∀ t∈takesOf g f o,E e' t=E e t)
 (h2:∀ σ',(∀ t∈readsOf ops o,σ'.env t=σ.env t)→opE g d f o σ'=some (v,{ σ' with env:=E σ'.env })):LocalOp g d f ops o σ σ1 v:=by
 subst h1
 refine ⟨fun t ht=>he _ t ht,by rw [hc];rfl,fun σ' hR _=>⟨_,h2 σ' hR,fun t ht=>hi _ _ hR t ht,by rw [hc];trivial⟩⟩

theorem zje {ps:List (Nat × Operand)} {t:Nat}:∀ {e:Nat→AV},(∀ p∈ps,p.2≠.tmp t)→ps.foldl (fun e p=>kil e p.2) e t=e t:=by
 induction ps with
 | nil=>intro e _;rfl
 | cons p ps ih =>
  intro e h
  rw [List.foldl_cons,ih fun q hq=>h q (List.mem_cons_of_mem _ hq)]
  exact zgq (h p (List.mem_cons_self ..))

theorem zik {ps:List (Nat × Operand)} {t:Nat}:∀ {e:Nat→AV},(∃ p∈ps,p.2=.tmp t)→ps.foldl (fun e p=>kil e p.2) e t=.dead:=by
 induction ps with
 | nil=>intro e h;obtain ⟨p,hp,_⟩:=h;cases hp
 | cons p ps ih =>
  intro e h
  rw [List.foldl_cons]
  by_cases hh:∃ q∈ps,q.2=.tmp t
  ·exact ih hh
  ·obtain ⟨q,hq,he⟩:=h
   cases hq with
   | tail _ hq=>exact absurd ⟨q,hq,he⟩ hh
   | head =>
    rw [zje fun q hq e=>hh ⟨q,hq,e⟩,he]
    simp [kil,upd]

theorem zeo {P:Program} {env env':Nat→AV} {o:Oper} (h:∀ x∈o.op.operands,opnd env' x=opnd env x)
 (hx:∀ ρ ρ':Operand→Value,(∀ x∈o.op.operands,ρ' x=ρ x)→execOp ρ' o=execOp ρ o):scalarOp P env' o=scalarOp P env o:=by
 unfold scalarOp
 have h1:o.op.operands.all (fun x=>(sclr (opnd env' x)).isSome)=o.op.operands.all (fun x=>(sclr (opnd env x)).isSome):=by
  rw [Bool.eq_iff_iff,Array.all_eq_true_iff_forall_mem,Array.all_eq_true_iff_forall_mem]
  exact ⟨fun hh x hx=>by rw [← h x hx];exact hh x hx,fun hh x hx=>by rw [h x hx];exact hh x hx⟩
 rw [h1,hx _ _ fun x hx=>by rw [h x hx]]

theorem zcq (op:Op) (t:Nat):t∈(op.operands.toList.filterMap fun | .tmp t=>some t | _=>none) ↔ Operand.tmp t∈op.operands:=by
 rw [List.mem_filterMap]
 constructor
 ·rintro ⟨a,ha,he⟩
  cases a with
  | tmp u=>simp only [Option.some.injEq] at he;subst he;simpa using ha
  | _=>cases he
 ·intro h;exact ⟨.tmp t,by simpa using h,rfl⟩

theorem mapM_congr' {α β:Type} {F H:α→Option β}:∀ {l:List α},(∀ x∈l,F x=H x)→l.mapM F=l.mapM H
 | [],_=>rfl
 | a :: l,h=>by
  rw [List.mapM_cons,List.mapM_cons,h a (List.mem_cons_self ..),mapM_congr' fun x hx=>h x (List.mem_cons_of_mem _ hx)]

theorem opE_local (g:Cfg) (d f:Nat) (ops:Array Oper) (o:Oper) {σ σ1:St} {v:AV} (h:opE g d f o σ=some (v,σ1)):LocalOp g d f ops o σ σ1 v:=by
 obtain ⟨dst,op,ty,pos,after,guard⟩:=o
 cases op with
 | move x =>
  have hk:∀ t,x=.tmp t ↔ Operand.tmp t∈(Op.move x).operands:=fun t=>by simp [Op.operands,eq_comm]
  cases htk:g.tk f dst with
  | true =>
   simp only [opE,htk,if_true,Option.some.injEq,Prod.mk.injEq] at h
   obtain ⟨rfl,rfl⟩:=h
   refine loc_t (fun e=>kil e x) rfl rfl (fun e t ht=>zgq fun hx=>ht ?_) (fun e e' _ t ht=>?_) fun σ' hR=>?_
   ·simp only [takesOf,htk,if_true];rw [zcq];exact (hk t).1 hx
   ·simp only [takesOf,htk,if_true] at ht;rw [zcq] at ht;rw [(hk t).2 ht];exact zqf
   ·have hx:=zbc (x:=x) hR (by simp [Op.operands])
    simp only [opE,htk,if_true,hx]
  | false =>
   simp only [opE,htk,Bool.false_eq_true,if_false,Option.some.injEq,Prod.mk.injEq] at h
   obtain ⟨rfl,rfl⟩:=h
   refine loc_p rfl (by simp only [takesOf,htk,Bool.false_eq_true,if_false]) rfl fun σ' hR=>?_
   have hx:=zbc (x:=x) hR (by simp [Op.operands])
   simp only [opE,htk,Bool.false_eq_true,if_false,hx]
 | assign x =>
  have hk:∀ t,x=.tmp t ↔ Operand.tmp t∈(Op.assign x).operands:=fun t=>by simp [Op.operands,eq_comm]
  simp only [opE,Option.some.injEq,Prod.mk.injEq] at h
  obtain ⟨rfl,rfl⟩:=h
  refine loc_t (fun e=>kil e x) rfl rfl (fun e t ht=>zgq fun hx=>ht ?_) (fun e e' _ t ht=>?_) fun σ' hR=>?_
  ·simp only [takesOf];rw [zcq];exact (hk t).1 hx
  ·simp only [takesOf] at ht;rw [zcq] at ht;rw [(hk t).2 ht];exact zqf
  ·have hx:=zbc (x:=x) hR (by simp [Op.operands])
   simp only [opE,hx]
 | pick c a b =>
  simp only [opE,bind,Option.bind_eq_some_iff,Option.some.injEq,Prod.mk.injEq] at h
  obtain ⟨t,ht,rfl,rfl⟩:=h
  refine loc_p rfl rfl rfl fun σ' hR=>?_
  have hc:=zbc (x:=c) hR (by simp [Op.operands])
  have ha:=zbc (x:=a) hR (by simp [Op.operands])
  have hb:=zbc (x:=b) hR (by simp [Op.operands])
  simp only [opE,bind,hc,ht,Option.bind_some]
  cases t <;> simp [ha,hb]
 | extract x i =>
  simp only [opE] at h
  cases x with
  | tmp t =>
   dsimp only at h
   cases he:σ.env t with
   | tu vs =>
    rw [he] at h
    simp only [bind,Option.bind_eq_some_iff] at h
    obtain ⟨⟨ag,cs⟩,hi,w,hw,h⟩:=h
    simp only [Option.some.injEq,Prod.mk.injEq] at h
    obtain ⟨rfl,rfl⟩:=h
    refine loc_t (fun e u=>if u=t then (match e t with | .tu vs=>(match vs[i]? with | some (ag,cs)=>.tu (vs.set i (ag,cs.map fun _=>.dead)) | none=>e t) | _=>e t) else e u) rfl ?_ (fun e u hu=>?_) (fun e e' hR u hu=>?_) fun σ' hR=>?_
    ·simp only [he,hi];rfl
    ·have hne:u≠t:=by rintro rfl;exact hu (by simp only [takesOf];rw [zcq];simp [Op.operands])
     simp [hne]
    ·simp only [takesOf] at hu
     rw [zcq] at hu
     have hut:u=t:=by simpa [Op.operands] using hu
     subst hut
     have:e' u=e u:=hR u (zlk hu)
     simp [this]
    ·have hx:σ'.env t=σ.env t:=hR t (zlk (by simp [Op.operands]))
     simp only [opE,hx,he,bind,hi,Option.bind_some,hw]
     rfl
   | one c=>rw [he] at h;cases h
   | ag cs=>rw [he] at h;cases h
  | _=>cases h
 | alloc e =>
  simp only [opE,bind,Option.bind_eq_some_iff] at h
  obtain ⟨i,hi,t,rfl,h⟩:=h
  split at h
  ·cases h
  ·rename_i hm
   simp only [Option.some.injEq,Prod.mk.injEq] at h
   obtain ⟨rfl,rfl⟩:=h
   obtain ⟨hm',htK⟩:σ.mem (d,t)=none∧¬ t=deepK:=by simpa using hm
   refine ⟨fun _ _=>rfl,⟨hm',_,rfl⟩,fun σ' hR hA=>?_⟩
   have hA':σ'.mem (d,t)=none:=hA
   refine ⟨{ σ' with mem:=upd σ'.mem (d,t) (some (i.zero.map C.ofValue)) },by simp [opE,hi,hA',htK],fun t ht=>by simp [takesOf] at ht,?_⟩
   show upd σ'.mem (d,t) _ (d,t)=upd σ.mem (d,t) _ (d,t)
   simp [upd]
 | box e x =>
  have hk:∀ t,x=.tmp t ↔ Operand.tmp t∈(Op.box e x).operands:=fun t=>by simp [Op.operands,eq_comm]
  simp only [opE,bind,Option.bind_eq_some_iff] at h
  obtain ⟨i,hi,t,rfl,cs,hcs,h⟩:=h
  split at h
  ·cases h
  ·rename_i hm
   simp only [Option.some.injEq,Prod.mk.injEq] at h
   obtain ⟨rfl,rfl⟩:=h
   obtain ⟨hm',htK⟩:σ.mem (d,t)=none∧¬ t=deepK:=by simpa using hm
   refine ⟨fun u hu=>zgq fun hx=>hu ?_,⟨hm',_,rfl⟩,fun σ' hR hA=>?_⟩
   ·simp only [takesOf];rw [zcq];exact (hk u).1 hx
   have hA':σ'.mem (d,t)=none:=hA
   have hx:=zbc (x:=x) hR (by simp [Op.operands])
   refine ⟨{ env:=kil σ'.env x,mem:=upd σ'.mem (d,t) (some cs) },by simp [opE,hi,hA',hx,hcs,htK],fun u hu=>?_,?_⟩
   ·simp only [takesOf] at hu;rw [zcq] at hu;rw [(hk u).2 hu];exact zqf
   show upd σ'.mem (d,t) _ (d,t)=upd σ.mem (d,t) _ (d,t)
   simp [upd]
 | load lt a =>
  have hE:∀ σ':St,(∀ t∈readsOf ops ⟨dst,.load lt a,ty,pos,after,guard⟩,σ'.env t=σ.env t)→opnd σ'.env a=opnd σ.env a:=fun σ' hR=>zbc (x:=a) hR (by simp [Op.operands])
  cases htk:g.tk f dst with
  | true =>
   have hc:clsOf g f ⟨dst,.load lt a,ty,pos,after,guard⟩=.t:=by simp [clsOf,htk]
   simp only [opE,htk,if_true,bind,Option.bind_eq_some_iff] at h
   have henv:σ1.env=σ.env:=by
    obtain ⟨i,hi,h⟩:=h
    split at h
    ·simp only [Option.bind_eq_some_iff] at h
     obtain ⟨_,_,_,_,h⟩:=h
     split at h
     ·cases h
     ·simp only [Option.bind_eq_some_iff,Option.some.injEq,Prod.mk.injEq] at h
      obtain ⟨_,_,_,rfl⟩:=h
      rfl
    ·simp only [Option.bind_eq_some_iff,Option.some.injEq,Prod.mk.injEq] at h
     obtain ⟨_,_,_,_,_,rfl⟩:=h
     rfl
    ·cases h
   have hrev:Rev σ1.mem σ.mem:=by
    obtain ⟨i,hi,h⟩:=h
    split at h
    ·rename_i k0 off0 _
     simp only [Option.bind_eq_some_iff] at h
     obtain ⟨cs,hcs,sg,hsg,h⟩:=h
     split at h
     ·cases h
     ·simp only [Option.bind_eq_some_iff,Option.some.injEq,Prod.mk.injEq] at h
      obtain ⟨_,_,_,rfl⟩:=h
      have hlen:sg.length=i.size∧off0+i.size≤cs.length:=by
       unfold seg at hsg
       split at hsg
       ·rename_i hle
        simp only [Option.some.injEq] at hsg
        subst hsg
        exact ⟨by rw [List.length_take,List.length_drop];omega,hle⟩
       ·cases hsg
      intro k' cs1 hk'
      simp only [upd] at hk'
      split at hk'
      ·rename_i he
       subst he
       simp only [Option.some.injEq] at hk'
       subst hk'
       refine ⟨cs,hcs,by unfold splice;simp only [List.length_append,List.length_take,List.length_drop,List.length_map,hlen.1];omega,fun j c hj hcd=>?_⟩
       rw [zdf _ _ _ (by rw [List.length_map,hlen.1];exact hlen.2),List.length_map,hlen.1] at hj
       by_cases hin:off0≤j∧j < off0+i.size
       ·rw [if_pos hin,List.getElem?_map] at hj
        cases hq:sg[j - _]? with
        | none=>rw [hq] at hj;cases hj
        | some q =>
         rw [hq] at hj
         simp only [Option.map_some,Option.some.injEq] at hj
         split at hj
         ·subst hj
          refine ⟨q,?_,(C.copy_twice q).symm⟩
          rw [← hq,(zic hsg).2.2 _ (by omega)]
          congr 1
          omega
         ·subst hj;cases hcd
       ·rw [if_neg hin] at hj;exact ⟨c,hj,rfl⟩
      ·exact ⟨cs1,hk',rfl,fun _ c h _=>⟨c,h,rfl⟩⟩
    ·simp only [Option.bind_eq_some_iff,Option.some.injEq,Prod.mk.injEq] at h
     obtain ⟨_,_,_,_,_,rfl⟩:=h
     exact Rev.refl _
    ·cases h
   refine ⟨fun t _=>by rw [henv],by rw [hc];exact hrev,fun σ' hR hA=>?_⟩
   rw [hc] at hA
   have hx:=hE σ' hR
   have hm:σ'.mem=σ.mem:=hA
   refine ⟨{ σ' with mem:=σ1.mem },?_,fun t ht=>by simp [takesOf] at ht,by rw [hc];rfl⟩
   obtain ⟨i,hi,h⟩:=h
   simp only [opE,htk,if_true,bind,hi,Option.bind_some,hx,hm]
   split at h
   ·rename_i hq
    simp only [Option.bind_eq_some_iff] at h
    obtain ⟨cs,hcs,sg,hsg,h⟩:=h
    split at h
    ·cases h
    ·rename_i hkd
     simp only [Option.bind_eq_some_iff,Option.some.injEq,Prod.mk.injEq] at h
     obtain ⟨v',hv,rfl,rfl⟩:=h
     simp only [hcs,hsg,Option.bind_some]
     rw [if_neg hkd,hv]
     rfl
   ·rename_i hq
    simp only [Option.bind_eq_some_iff,Option.some.injEq,Prod.mk.injEq] at h
    obtain ⟨sg,hsg,v',hv,rfl,rfl⟩:=h
    simp only [hsg,hv,Option.bind_some]
    simp only [← hm]
   ·cases h
  | false =>
   simp only [opE,htk,Bool.false_eq_true,if_false,bind,Option.bind_eq_some_iff] at h
   obtain ⟨i,hi,h⟩:=h
   split at h
   ·rename_i k off hq
    simp only [Option.bind_eq_some_iff] at h
    obtain ⟨cs,hcs,sg,hsg,h⟩:=h
    split at h
    ·rename_i hdd
     simp only [Option.bind_eq_some_iff,Option.some.injEq,Prod.mk.injEq] at h
     obtain ⟨v',hv,rfl,rfl⟩:=h
     refine loc_l (by simp [clsOf,htk]) rfl rfl fun σ' hR hA=>?_
     have hx:=hE σ' hR
     obtain ⟨cs',sg',hm,hsg',hmap,hal⟩:=hA.seg hcs hsg (by rw [Bool.and_eq_true] at hdd;exact hdd.1)
     have hdd':(sg'.all (fun c=>!c.isDead) && !awayB g d f dst k)=true:=by rw [Bool.and_eq_true] at hdd ⊢; exact ⟨hal,hdd.2⟩
     simp only [opE,htk,Bool.false_eq_true,if_false,bind,hi,Option.bind_some,hx,hq,hm,hsg',hmap,hv,hdd',if_true]
    ·cases h
   ·rename_i hq
    simp only [Option.bind_eq_some_iff,Option.some.injEq,Prod.mk.injEq] at h
    obtain ⟨sg,hsg,v',hv,rfl,rfl⟩:=h
    refine loc_l (by simp [clsOf,htk]) rfl rfl fun σ' hR hA=>?_
    have hx:=hE σ' hR
    simp only [opE,bind,hi,Option.bind_some,hx,hq,hsg,hv]
   ·cases h
 | store st a x =>
  have hk:∀ t,x=.tmp t→Operand.tmp t∈(Op.store st a x).operands:=fun t e=>by simp [Op.operands,e]
  simp only [opE,bind,Option.bind_eq_some_iff] at h
  obtain ⟨i,hi,h⟩:=h
  split at h
  ·rename_i k off hq
   simp only [Option.bind_eq_some_iff] at h
   obtain ⟨cs,hcs,new,hnew,h⟩:=h
   split at h
   ·rename_i hcond
    simp only [Option.some.injEq,Prod.mk.injEq] at h
    obtain ⟨rfl,rfl⟩:=h
    refine ⟨fun u hu=>zgq fun hx=>hu ?_,trivial,fun σ' hR hA=>?_⟩
    ·simp only [takesOf];rw [zcq];exact hk u hx
    ·have hm:σ'.mem=σ.mem:=hA
     have ha:=zbc (x:=a) hR (by simp [Op.operands])
     have hx:=zbc (x:=x) hR (by simp [Op.operands])
     refine ⟨{ env:=kil σ'.env x,mem:=upd σ.mem k (some (splice cs off new)) },by simp only [opE,bind,hi,Option.bind_some,ha,hq,hm,hcs,hx,hnew];rw [if_pos hcond],fun u hu=>?_,rfl⟩
     by_cases hxu:x=.tmp u
     ·rw [hxu];exact zqf
     ·show kil σ'.env x u=kil σ.env x u
      rw [zgq hxu,zgq hxu]
      simp only [takesOf] at hu;rw [zcq] at hu
      exact hR u (zlk hu)
   ·cases h
  ·cases h
 | nilCheck x =>
  simp only [opE] at h
  split at h
  all_goals first
   | cases h;done
   | (rename_i hq
      simp only [Option.some.injEq,Prod.mk.injEq] at h
      obtain ⟨rfl,rfl⟩:=h
      refine loc_p rfl rfl rfl fun σ' hR=>?_
      have hx:=zbc (x:=x) hR (by simp [Op.operands])
      simp only [opE,hx,hq])
 | lookup mt x k ok =>
  cases ok with
  | true=>simp [opE] at h
  | false =>
   simp only [opE] at h
   split at h
   ·rename_i kt e hu
    split at h
    ·rename_i hk
     rw [Option.map_eq_some_iff] at h
     obtain ⟨nc,hl,he⟩:=h
     simp only [Prod.mk.injEq] at he
     obtain ⟨rfl,rfl⟩:=he
     refine loc_p rfl rfl rfl fun σ' hR=>?_
     have h1:=zbc (x:=x) hR (by simp [Op.operands])
     have h2:=zbc (x:=k) hR (by simp [Op.operands])
     simp only [opE,hu,hk,h1,h2,hl,Option.map_some]
    ·cases h
   ·cases h
 | fieldAddr sx x fi =>
  simp only [opE,bind,Option.bind_eq_some_iff] at h
  obtain ⟨i,hi,fd,hfd,ti,hti,h⟩:=h
  split at h
  ·cases h
  ·rename_i hz
   split at h
   all_goals first
    | cases h;done
    | (rename_i hq
       simp only [Option.some.injEq,Prod.mk.injEq] at h
       obtain ⟨rfl,rfl⟩:=h
       refine loc_p rfl rfl rfl fun σ' hR=>?_
       have hx:=zbc (x:=x) hR (by simp [Op.operands])
       simp only [opE,hx,hq,bind,hi,hfd,hti,Option.bind_some,hz,if_false])
 | field sx x fi =>
  simp only [opE,bind,Option.bind_eq_some_iff] at h
  obtain ⟨i,hi,fd,hfd,ti,hti,h⟩:=h
  split at h
  ·rename_i hq
   simp only [Option.bind_eq_some_iff,Option.some.injEq,Prod.mk.injEq] at h
   obtain ⟨sg,hsg,v',hv,rfl,rfl⟩:=h
   refine loc_p rfl rfl rfl fun σ' hR=>?_
   have hx:=zbc (x:=x) hR (by simp [Op.operands])
   simp only [opE,hx,hq,bind,hi,hfd,hti,Option.bind_some,hsg,hv]
  ·cases h
 | indexAddr it x ix =>
  simp only [opE,bind,Option.bind_eq_some_iff] at h
  obtain ⟨i,hi,e,he,ei,hei,n,hn,h⟩:=h
  split at h
  ·rename_i hq
   split at h
   ·rename_i hc
    simp only [Option.some.injEq,Prod.mk.injEq] at h
    obtain ⟨rfl,rfl⟩:=h
    refine loc_p rfl rfl rfl fun σ' hR=>?_
    have hx:=zbc (x:=x) hR (by simp [Op.operands])
    have hix:=zbc (x:=ix) hR (by simp [Op.operands])
    simp only [opE,hx,hix,hq,bind,hi,he,hei,hn,Option.bind_some]
    rw [if_pos hc]
   ·cases h
  ·rename_i hq
   split at h
   ·rename_i hc
    simp only [Option.some.injEq,Prod.mk.injEq] at h
    obtain ⟨rfl,rfl⟩:=h
    refine loc_p rfl rfl rfl fun σ' hR=>?_
    have hx:=zbc (x:=x) hR (by simp [Op.operands])
    have hix:=zbc (x:=ix) hR (by simp [Op.operands])
    simp only [opE,hx,hix,hq,bind,hi,he,hei,hn,Option.bind_some]
    rw [if_pos hc]
   ·cases h
  ·cases h
 | build bt parts =>
  simp only [opE,bind,Option.bind_eq_some_iff] at h
  obtain ⟨i,hi,h⟩:=h
  split at h
  ·cases h
  rename_i hnd
  simp only [Option.bind_eq_some_iff] at h
  obtain ⟨ps,hps,h⟩:=h
  split at h
  ·cases h
  rename_i hfl
  simp only [Option.bind_eq_some_iff,Option.some.injEq,Prod.mk.injEq] at h
  obtain ⟨pl,hpl,cs,hcs,rfl,rfl⟩:=h
  refine loc_t (fun e=>parts.toList.foldl (fun e p=>kil e p.2) e) rfl rfl (fun e t ht=>zje fun p hp hx=>ht ?_) (fun e e' _ t ht=>?_) fun σ' hR=>?_
  ·simp only [takesOf];rw [zcq];simp only [Op.operands,List.mem_toArray,List.mem_map];exact ⟨p,hp,hx⟩
  ·simp only [takesOf] at ht;rw [zcq] at ht;simp only [Op.operands,List.mem_toArray,List.mem_map] at ht
   obtain ⟨p,hp,hx⟩:=ht
   rw [zik ⟨p,hp,hx⟩,zik ⟨p,hp,hx⟩]
  ·have hx:∀ p∈parts.toList,opnd σ'.env p.2=opnd σ.env p.2:=fun p hp=>zbc hR (by simp only [Op.operands,List.mem_toArray,List.mem_map];exact ⟨p,hp,rfl⟩)
   have hps':(parts.toList.mapM fun p=>(opnd σ'.env p.2).cells.map fun cs=>(p.1,cs))=some ps:=by
    rw [← hps];exact mapM_congr' fun p hp=>by rw [hx p hp]
   simp only [opE,bind,hi,Option.bind_some,hnd,if_false,Bool.false_eq_true,hps',hfl,hpl,hcs]
 | buildSlice bt len parts =>
  simp only [opE,bind,Option.bind_eq_some_iff] at h
  obtain ⟨i,hi,e,he,ei,hei,h⟩:=h
  split at h
  ·cases h
  rename_i hz
  split at h
  ·cases h
  rename_i hz2
  split at h
  ·cases h
  rename_i hnd
  simp only [Option.bind_eq_some_iff,Option.some.injEq,Prod.mk.injEq] at h
  obtain ⟨ps,hps,cs,hcs,m,hm,ds,hds,rfl,rfl⟩:=h
  refine loc_t (fun e=>parts.toList.foldl (fun e p=>kil e p.2) e) rfl rfl (fun e t ht=>zje fun p hp hx=>ht ?_) (fun e e' _ t ht=>?_) fun σ' hR=>?_
  ·simp only [takesOf];rw [zcq];simp only [Op.operands,List.mem_toArray,List.mem_map];exact ⟨p,hp,hx⟩
  ·simp only [takesOf] at ht;rw [zcq] at ht;simp only [Op.operands,List.mem_toArray,List.mem_map] at ht
   obtain ⟨p,hp,hx⟩:=ht
   rw [zik ⟨p,hp,hx⟩,zik ⟨p,hp,hx⟩]
  ·have hx:∀ p∈parts.toList,opnd σ'.env p.2=opnd σ.env p.2:=fun p hp=>zbc hR (by simp only [Op.operands,List.mem_toArray,List.mem_map];exact ⟨p,hp,rfl⟩)
   have hps':(parts.toList.mapM fun p=>(opnd σ'.env p.2).cells.map fun cs=>(p.1,cs))=some ps:=by
    rw [← hps];exact mapM_congr' fun p hp=>by rw [hx p hp]
   simp only [opE,bind,hi,he,hei,Option.bind_some,hz,hz2,hnd,if_false,Bool.false_eq_true,hps',hcs,hm,hds]
 | slice st x lo hi mx =>
  cases mx with
  | some m=>simp [opE] at h
  | none =>
   have hX:∀ σ':St,(∀ t∈readsOf ops ⟨dst,.slice st x lo hi none,ty,pos,after,guard⟩,σ'.env t=σ.env t) →
    opnd σ'.env x=opnd σ.env x∧loOf lo σ'.env=loOf lo σ.env∧(∀ n,hiOf hi σ'.env n=hiOf hi σ.env n)∧scalarOp g.P σ'.env ⟨dst,.slice st x lo hi none,ty,pos,after,guard⟩=scalarOp g.P σ.env ⟨dst,.slice st x lo hi none,ty,pos,after,guard⟩:=by
    intro σ' hR
    have hall:∀ y∈(Op.slice st x lo hi none).operands,opnd σ'.env y=opnd σ.env y:=fun y hy=>zbc hR hy
    refine ⟨hall x (by simp [Op.operands]),?_,fun n=>?_,zeo hall fun ρ ρ' hρ=>?_⟩
    ·cases lo with
     | none=>rfl
     | some y=>simp only [loOf,hall y (by simp [Op.operands])]
    ·cases hi with
     | none=>rfl
     | some y=>simp only [hiOf,hall y (by simp [Op.operands])]
    ·have h1:ρ' x=ρ x:=hρ x (by simp [Op.operands])
     have h2:lo.map ρ'=lo.map ρ:=by
      cases lo with
      | none=>rfl
      | some y=>simp [hρ y (by simp [Op.operands])]
     have h3:hi.map ρ'=hi.map ρ:=by
      cases hi with
      | none=>rfl
      | some y=>simp [hρ y (by simp [Op.operands])]
     simp only [execOp,h1,h2,h3]
     rfl
   simp only [opE,bind] at h
   split at h
   ·rename_i hq
    simp only [Option.bind_eq_some_iff] at h
    obtain ⟨i,hi',e,he,ei,hei,l,hl,hh,hhh,h⟩:=h
    split at h
    ·rename_i hc
     simp only [Option.some.injEq,Prod.mk.injEq] at h
     obtain ⟨rfl,rfl⟩:=h
     refine loc_p rfl rfl rfl fun σ' hR=>?_
     obtain ⟨h1,h2,h3,h4⟩:=hX σ' hR
     simp only [opE,bind,h1,hq,hi',he,hei,Option.bind_some,h2,hl,h3,hhh]
     rw [if_pos hc]
    ·cases h
   ·rename_i hq
    simp only [Option.bind_eq_some_iff,Option.some.injEq,Prod.mk.injEq] at h
    obtain ⟨u,hu,rfl,rfl⟩:=h
    refine loc_p rfl rfl rfl fun σ' hR=>?_
    obtain ⟨h1,h2,h3,h4⟩:=hX σ' hR
    simp only [opE,bind,h1]
    rw [h4,hu]
    rfl
 | makeFunc fn first caps =>
  cases fn with
  | func k =>
   simp only [opE,bind] at h
   split at h
   ·rename_i hf
    simp only [Option.bind_eq_some_iff,Option.some.injEq,Prod.mk.injEq] at h
    obtain ⟨cs,hcs,rfl,rfl⟩:=h
    refine loc_p rfl rfl rfl fun σ' hR=>?_
    simp only [opE,bind]
    rw [if_pos hf,Option.bind_eq_some_iff]
    refine ⟨cs,?_,rfl⟩
    rw [← hcs]
    refine mapM_congr' fun x hx=>?_
    rw [zbc hR (by simp only [Op.operands];exact Array.mem_append_right _ (by simpa using hx))]
   ·cases h
  | _=>simp [opE] at h
 | makeSlice mt l c =>
  simp only [opE,bind,Option.bind_eq_some_iff] at h
  obtain ⟨i,hi,e,he,ei,hei,n,hn,cp,hcp,h⟩:=h
  split at h
  ·cases h
  rename_i hz
  split at h
  ·rename_i hc
   have h1:∀ σ':St,(∀ t∈readsOf ops ⟨dst,.makeSlice mt l c,ty,pos,after,guard⟩,σ'.env t=σ.env t)→opnd σ'.env l=opnd σ.env l∧opnd σ'.env c=opnd σ.env c:=fun σ' hR =>
    ⟨zbc (x:=l) hR (by simp [Op.operands]),zbc (x:=c) hR (by simp [Op.operands])⟩
   cases htk:g.tk f dst with
   | true =>
    have hcl:clsOf g f ⟨dst,.makeSlice mt l c,ty,pos,after,guard⟩=.a:=by simp [clsOf,htk]
    simp only [htk,if_true,Option.bind_eq_some_iff] at h
    obtain ⟨t,ht,h⟩:=h
    split at h
    ·cases h
    ·rename_i hm
     simp only [Option.some.injEq,Prod.mk.injEq] at h
     obtain ⟨rfl,rfl⟩:=h
     obtain ⟨hm',htK⟩:σ.mem (d,t)=none∧¬ t=deepK:=by simpa using hm
     subst ht
     refine ⟨fun _ _=>rfl,by rw [hcl];exact ⟨hm',_,rfl⟩,fun σ' hR hA=>?_⟩
     rw [hcl] at hA ⊢
     have hA':σ'.mem (d,t)=none:=hA
     obtain ⟨e1,e2⟩:=h1 σ' hR
     refine ⟨{ σ' with mem:=upd σ'.mem (d,t) (some ((List.replicate n.toNat (ei.zero.map C.ofValue)).flatten)) },?_,fun t ht=>by simp [takesOf] at ht,?_⟩
     ·simp only [opE,bind,hi,he,hei,e1,e2,hn,hcp,Option.bind_some,htk,if_true,hA',Option.isSome_none,Bool.false_or,beq_eq_false_iff_ne.2 htK,Bool.false_eq_true,if_false]
      rw [if_neg hz,if_pos hc]
     ·show upd σ'.mem (d,t) _ (d,t)=upd σ.mem (d,t) _ (d,t)
      simp [upd]
   | false =>
    simp only [htk,Bool.false_eq_true,if_false,Option.bind_eq_some_iff,Option.some.injEq,Prod.mk.injEq] at h
    obtain ⟨zd,hzd,rfl,rfl⟩:=h
    refine loc_p (by simp [clsOf,htk]) rfl rfl fun σ' hR=>?_
    obtain ⟨e1,e2⟩:=h1 σ' hR
    simp only [opE,bind,hi,he,hei,e1,e2,hn,hcp,Option.bind_some,htk,Bool.false_eq_true,if_false]
    rw [if_neg hz,if_pos hc,hzd]
    rfl
  ·cases h
 | call cl =>
  obtain ⟨callee,args,argTypes⟩:=cl
  cases callee with
  | value _=>simp [opE] at h
  | invoke _ _=>simp [opE] at h
  | builtin bi =>
   have hall:∀ σ':St,(∀ t∈readsOf ops ⟨dst,.call ⟨.builtin bi,args,argTypes⟩,ty,pos,after,guard⟩,σ'.env t=σ.env t)→∀ y∈args.toList,opnd σ'.env y=opnd σ.env y :=
    fun σ' hR y hy=>zbc hR (by simp only [Op.operands,Call.operands];exact Array.mem_append_right _ (by simpa using hy))
   have hsc:∀ σ':St,(∀ t∈readsOf ops ⟨dst,.call ⟨.builtin bi,args,argTypes⟩,ty,pos,after,guard⟩,σ'.env t=σ.env t) →
    scalarOp g.P σ'.env ⟨dst,.call ⟨.builtin bi,args,argTypes⟩,ty,pos,after,guard⟩=scalarOp g.P σ.env ⟨dst,.call ⟨.builtin bi,args,argTypes⟩,ty,pos,after,guard⟩:=by
    intro σ' hR
    refine zeo (fun y hy=>zbc hR hy) fun ρ ρ' hρ=>?_
    have:args.map ρ'=args.map ρ:=Array.map_congr_left fun y hy=>hρ y (by simp only [Op.operands,Call.operands];exact Array.mem_append_right _ hy)
    simp only [execOp,resolve,this]
   have hsplit:∀ y:Option Value,True:=fun _=>trivial
   cases bi with
   | len =>
    simp only [opE,bind] at h
    split at h
    ·rename_i hq
     simp only [Option.bind_eq_some_iff,Option.some.injEq,Prod.mk.injEq] at h
     obtain ⟨t,ht,i,hi,e,he,rfl,rfl⟩:=h
     refine loc_p rfl rfl rfl fun σ' hR=>?_
     have h1:args.toList.map (opnd σ'.env)=args.toList.map (opnd σ.env):=List.map_congr_left (hall σ' hR)
     simp only [opE,bind,h1,hq,ht,hi,he,Option.bind_some]
    ·rename_i hq
     simp only [Option.bind_eq_some_iff,Option.some.injEq,Prod.mk.injEq] at h
     obtain ⟨t,ht,i,hi,e,he,rfl,rfl⟩:=h
     refine loc_p rfl rfl rfl fun σ' hR=>?_
     have h1:args.toList.map (opnd σ'.env)=args.toList.map (opnd σ.env):=List.map_congr_left (hall σ' hR)
     simp only [opE,bind,h1,hq,ht,hi,he,Option.bind_some]
    ·rename_i hq
     simp only [Option.bind_eq_some_iff,Option.some.injEq,Prod.mk.injEq] at h
     obtain ⟨u,hu,rfl,rfl⟩:=h
     refine loc_p rfl rfl rfl fun σ' hR=>?_
     have h1:args.toList.map (opnd σ'.env)=args.toList.map (opnd σ.env):=List.map_congr_left (hall σ' hR)
     simp only [opE,bind,h1]
     rw [hsc σ' hR,hu]
     rfl
   | append =>
    simp only [opE,bind] at h
    split at h
    ·rename_i x y hxy
     simp only [Option.bind_eq_some_iff] at h
     obtain ⟨t,ht,i,hi,e,he,ei,hei,h⟩:=h
     split at h
     ·cases h
     rename_i hc
     split at h
     ·rename_i hqx hqy
      split at h
      ·cases h
      rename_i hm
      split at h
      ·cases h
      rename_i hb
      simp only [Option.bind_eq_some_iff,Option.some.injEq,Prod.mk.injEq] at h
      obtain ⟨m',hm',rfl,rfl⟩:=h
      have hmx:x∈args.toList:=by rw [hxy];simp
      have hmy:y∈args.toList:=by rw [hxy];simp
      have hop:∀ z∈args.toList,z∈(Op.call ⟨.builtin .append,args,argTypes⟩).operands:=fun z hz=>by simp only [Op.operands,Call.operands];exact Array.mem_append_right _ (by simpa using hz)
      refine loc_t (fun e=>kil (kil e x) y) rfl rfl (fun e t ht=>?_) (fun e e' _ t ht=>?_) fun σ' hR=>?_
      ·have hx:x≠.tmp t:=fun hx=>ht (by simp only [takesOf];rw [zcq];rw [← hx];exact hop x hmx)
       have hy:y≠.tmp t:=fun hy=>ht (by simp only [takesOf];rw [zcq];rw [← hy];exact hop y hmy)
       rw [zgq hy,zgq hx]
      ·simp only [takesOf] at ht;rw [zcq] at ht
       simp only [Op.operands,Call.operands,Array.mem_append] at ht
       have ht:Operand.tmp t∈args.toList:=by simpa using ht
       rw [hxy] at ht
       simp only [List.mem_cons,List.not_mem_nil,or_false] at ht
       by_cases hy:y=.tmp t
       ·rw [hy];exact zqf
       ·have hx:x=.tmp t:=by rcases ht with ht | ht;exact ht.symm;exact absurd ht.symm hy
        rw [zgq hy,zgq hy,hx];exact zqf
      ·have h1:=hall σ' hR x hmx
       have h2:=hall σ' hR y hmy
       simp only [opE,bind,hxy,ht,hi,he,hei,Option.bind_some,h1,h2,hqx,hqy]
       rw [if_neg hc,if_neg hm,if_neg hb,hm']
       rfl
     ·cases h
    ·cases h
   | _ =>
    simp only [opE,bind,Option.bind_eq_some_iff,Option.some.injEq,Prod.mk.injEq] at h
    obtain ⟨u,hu,rfl,rfl⟩:=h
    refine loc_p rfl rfl rfl fun σ' hR=>?_
    simp only [opE,bind,hsc σ' hR,hu,Option.bind_some]
 | binOp b xt x y yt =>
  simp only [opE,bind,Option.bind_eq_some_iff,Option.some.injEq,Prod.mk.injEq] at h
  obtain ⟨u,hu,rfl,rfl⟩:=h
  refine loc_p rfl rfl rfl fun σ' hR=>?_
  have:=zeo (P:=g.P) (o:=⟨dst,.binOp b xt x y yt,ty,pos,after,guard⟩) (fun y hy=>zbc hR hy) fun ρ ρ' hρ=>by
   simp only [execOp,hρ x (by simp [Op.operands]),hρ y (by simp [Op.operands])]
  simp only [opE,bind,this,hu,Option.bind_some]
 | unOp b xt x =>
  simp only [opE,bind,Option.bind_eq_some_iff,Option.some.injEq,Prod.mk.injEq] at h
  obtain ⟨u,hu,rfl,rfl⟩:=h
  refine loc_p rfl rfl rfl fun σ' hR=>?_
  have:=zeo (P:=g.P) (o:=⟨dst,.unOp b xt x,ty,pos,after,guard⟩) (fun y hy=>zbc hR hy) fun ρ ρ' hρ=>by
   simp only [execOp,hρ x (by simp [Op.operands])]
  simp only [opE,bind,this,hu,Option.bind_some]
 | convert b xt x =>
  simp only [opE,bind,Option.bind_eq_some_iff,Option.some.injEq,Prod.mk.injEq] at h
  obtain ⟨u,hu,rfl,rfl⟩:=h
  refine loc_p rfl rfl rfl fun σ' hR=>?_
  have:=zeo (P:=g.P) (o:=⟨dst,.convert b xt x,ty,pos,after,guard⟩) (fun y hy=>zbc hR hy) fun ρ ρ' hρ=>by
   simp only [execOp,hρ x (by simp [Op.operands])]
  simp only [opE,bind,this,hu,Option.bind_some]
 | index xt x ix =>
  simp only [opE,bind,Option.bind_eq_some_iff,Option.some.injEq,Prod.mk.injEq] at h
  obtain ⟨u,hu,rfl,rfl⟩:=h
  refine loc_p rfl rfl rfl fun σ' hR=>?_
  have:=zeo (P:=g.P) (o:=⟨dst,.index xt x ix,ty,pos,after,guard⟩) (fun y hy=>zbc hR hy) fun ρ ρ' hρ=>by
   simp only [execOp,hρ x (by simp [Op.operands]),hρ ix (by simp [Op.operands])]
  simp only [opE,bind,this,hu,Option.bind_some]
 | _=>simp [opE] at h

end Go.Ev


namespace Go.Ev

theorem a_dst {g:Cfg} {d f:Nat} {o:Oper} {σ:St} {r:AV × St} (hc:clsOf g f o=.a) (h:opE g d f o σ=some r):o.dst.isSome=true:=by
 obtain ⟨dst,op,ty,pos,after,guard⟩:=o
 cases op with
 | alloc e =>
  simp only [opE,bind,Option.bind_eq_some_iff] at h
  obtain ⟨i,hi,t,rfl,h⟩:=h
  rfl
 | box e x =>
  simp only [opE,bind,Option.bind_eq_some_iff] at h
  obtain ⟨i,hi,t,rfl,h⟩:=h
  rfl
 | load t a=>simp only [clsOf] at hc;split at hc <;> cases hc
 | makeSlice mt l c =>
  simp only [clsOf] at hc
  split at hc
  ·rename_i htk
   simp only [opE,bind,Option.bind_eq_some_iff] at h
   obtain ⟨i,hi,e,he,ei,hei,n,hn,cp,hcp,h⟩:=h
   split at h
   ·cases h
   ·split at h
    ·simp only [Option.bind_eq_some_iff] at h
     obtain ⟨t,rfl,_⟩:=h
     rfl
    ·cases h
  ·cases hc
 | call cl =>
  obtain ⟨callee,args,argTypes⟩:=cl
  exfalso
  cases callee with
  | value x =>
   cases x with
   | func k=>simp only [clsOf] at hc;split at hc <;> first | cases hc | (split at hc <;> cases hc)
   | _=>simp only [clsOf] at hc;split at hc <;> cases hc
  | _=>simp [clsOf] at hc
 | _=>simp [clsOf] at hc

def LocalW (S:St→Option St) (R W:List Nat) (c:Cls) (key:Key) (σ σ1:St):Prop :=
 (∀ t,t ∉ W→σ1.env t=σ.env t)∧effM c key σ.mem σ1.mem ∧
  ∀ σ',(∀ t∈R,σ'.env t=σ.env t)→agreeM c key σ.mem σ'.mem→∃ σ1',S σ'=some σ1'∧(∀ t∈W,σ1'.env t=σ1.env t)∧sameM c key σ1.mem σ1'.mem

theorem isV {op:Op}:(∃ x args argTypes,op=.call { callee:=.value x,args,argTypes })∨(∀ x args argTypes,op≠.call { callee:=.value x,args,argTypes }):=by
 cases op with
 | call c =>
  obtain ⟨callee,args,at_⟩:=c
  cases callee with
  | value x=>exact .inl ⟨x,args,at_,rfl⟩
  | _=>right;intro x args at_ h;cases h
 | _=>right;intro x args at_ h;cases h

theorem zkz {call:Nat→List AV→Mem→Option (AV × Mem)} {g:Cfg} {d f:Nat} {o:Oper} {σ:St} (h:∀ x args argTypes,o.op≠.call { callee:=.value x,args,argTypes }) :
 stepW call g d f o σ=(opE g d f o σ).bind fun vs=>some { vs.2 with env:=putD vs.2.env o.dst vs.1 }:=by
 unfold stepW
 split
 ·rename_i hh;exact absurd hh (h _ _ _)
 ·rfl

theorem zel {call:Nat→List AV→Mem→Option (AV × Mem)} {g:Cfg} {d f:Nat} {o:Oper} {σ:St} {x:Operand} {args:Array Operand} {argTypes:Array TypeId} (h:o.op=.call { callee:=.value x,args,argTypes }) :
 stepW call g d f o σ=(calleeOf σ.env x).bind fun kc =>
 (call kc.1 (args.toList.map (fun y=>(opnd σ.env y).copy) ++ kc.2) σ.mem).bind fun rm=>callEnd g f o σ kc.1 rm:=by
 unfold stepW
 rw [h]

theorem zmr (g:Cfg) (n d f:Nat) (ops:Array Oper) (o:Oper) (hne:∀ x args argTypes,o.op≠.call { callee:=.value x,args,argTypes }) {σ σ1:St} (h:stepW (callN g n d) g d f o σ=some σ1) :
 LocalW (stepW (callN g n d) g d f o) (readsOf ops o) (writesOf g f o) (clsOf g f o) (d,o.dst.getD 0) σ σ1:=by
 rw [zkz hne] at h
 rw [Option.bind_eq_some_iff] at h
 obtain ⟨⟨v,σ2⟩,hv,h⟩:=h
 simp only [Option.some.injEq] at h
 subst h
 obtain ⟨h1,h2,h3⟩:=opE_local g d f ops o hv
 refine ⟨fun t ht=>?_,h2,fun σ' hR hA=>?_⟩
 ·rw [zhn,List.mem_append,not_or] at ht
  show putD σ2.env o.dst v t=σ.env t
  rw [zha fun e=>ht.1 (by rw [e];simp)]
  exact h1 t ht.2
 ·obtain ⟨σ1',a1,a2,a3⟩:=h3 σ' hR hA
  refine ⟨{ σ1' with env:=putD σ1'.env o.dst v },by rw [zkz hne,a1];rfl,fun t ht=>?_,a3⟩
  rw [zhn,List.mem_append] at ht
  show putD σ1'.env o.dst v t=putD σ2.env o.dst v t
  by_cases hd:o.dst=some t
  ·rw [hd];simp [putD,upd]
  ·rw [zha hd,zha hd]
   refine a2 t (ht.resolve_left fun hh=>hd ?_)
   cases hdd:o.dst with
   | none=>rw [hdd] at hh;simp at hh
   | some u=>rw [hdd] at hh;simp at hh;rw [hh]


theorem zms (g:Cfg) (n d f:Nat) (ops:Array Oper) (o:Oper) {k:Nat} {args:Array Operand} {argTypes:Array TypeId} (ho:o.op=.call { callee:=.value (.func k),args,argTypes }) {F:List AV→Option AV} (hF:lookN k g.ctx=some F) {σ σ1:St} (h:stepW (callN g n d) g d f o σ=some σ1) :
 LocalW (stepW (callN g n d) g d f o) (readsOf ops o) (writesOf g f o) (clsOf g f o) (d,o.dst.getD 0) σ σ1:=by
 have hall:∀ σ':St,(∀ t∈readsOf ops o,σ'.env t=σ.env t)→∀ y∈args.toList,opnd σ'.env y=opnd σ.env y:=by
  intro σ' hR y hy
  refine zbc hR ?_
  rw [ho]
  simp only [Op.operands,Call.operands]
  exact Array.mem_append_right _ (by simpa using hy)
 have hW:writesOf g f o=o.dst.toList:=by unfold writesOf;rw [ho];simp
 have hcls:clsOf g f o=.p:=by unfold clsOf;rw [ho];simp [hF]
 have hk0:∀ e,calleeOf e (.func k)=some (k,[]):=fun _=>rfl
 rw [zel ho,hk0] at h
 simp only [Option.bind_some,List.append_nil] at h
 rw [Option.bind_eq_some_iff] at h
 obtain ⟨rm,hrm,h⟩:=h
 have hro:isRo g f o.dst=false:=by
  cases hr:isRo g f o.dst with
  | false=>rfl
  | true =>
   unfold callEnd at h
   rw [hr,if_pos rfl] at h
   unfold roFn at h
   rw [hF] at h
   simp at h
 unfold callEnd at h
 rw [hro] at h
 simp only [Bool.false_eq_true,if_false,Option.some.injEq] at h
 subst h
 have hput2:∀ (e e':Nat→AV) t,t∈writesOf g f o→putD e' o.dst rm.1 t=putD e o.dst rm.1 t:=fun e e' t ht=>by
  rw [hW] at ht
  cases hd:o.dst with
  | none=>rw [hd] at ht;simp at ht
  | some u=>rw [hd] at ht;simp at ht;subst ht;simp [putD,upd]
 cases n with
 | zero=>simp only [callN] at hrm;cases hrm
 | succ n =>
  simp only [callN,hF] at hrm
  rw [Option.bind_eq_some_iff] at hrm
  obtain ⟨la,hla,hrm⟩:=hrm
  rw [Option.bind_eq_some_iff] at hrm
  obtain ⟨r,hr,hrm⟩:=hrm
  split at hrm
  ·rename_i hc
   simp only [Option.some.injEq] at hrm
   subst hrm
   refine ⟨fun t ht=>zha fun e=>ht (by rw [hW,e];simp),by rw [hcls];rfl,fun σ' hR _=>⟨{ σ' with env:=putD σ'.env o.dst r },?_,fun t ht=>hput2 _ _ t ht,by rw [hcls];trivial⟩⟩
   have ha:args.toList.map (fun y=>(opnd σ'.env y).copy)=args.toList.map (fun y=>(opnd σ.env y).copy):=List.map_congr_left fun y hy=>by rw [hall σ' hR y hy]
   rw [zel ho]
   rw [hk0]
   simp only [Option.bind_some,List.append_nil,callN,hF]
   rw [ha,hla]
   simp only [Option.bind_some,hr]
   rw [if_pos hc]
   simp only [Option.bind_some]
   unfold callEnd
   rw [hro]
   rfl
  ·cases hrm

theorem ro_step {g:Cfg} {n d k:Nat} {ops:Array Oper} {o:Oper} (hro:roOp g k o=true) {σ σ1:St} (h:stepW (callN g n d) g d k o σ=some σ1) :
 σ1.mem=σ.mem∧∀ τ:St,τ.env=σ.env→Rev σ.mem τ.mem→∃ τ1,stepW (callN g n d) g d k o τ=some τ1∧τ1.env=σ1.env∧τ1.mem=τ.mem:=by
 unfold roOp at hro
 rw [Bool.and_eq_true,Bool.not_eq_true'] at hro
 obtain ⟨_,hro⟩:=hro
 have hc:clsOf g k o=.p∨clsOf g k o=.l:=by
  split at hro
  ·rename_i k' args at_ ho
   left
   unfold clsOf
   rw [ho]
   simp [hro]
  ·cases hro
  ·simpa using hro
 have hL:∀ σ σ1,stepW (callN g n d) g d k o σ=some σ1→LocalW (stepW (callN g n d) g d k o) (readsOf ops o) (writesOf g k o) (clsOf g k o) (d,o.dst.getD 0) σ σ1:=by
  intro σ σ1 h
  rcases isV (op:=o.op) with ⟨x,args,argTypes,ho⟩ | hne
  ·rw [ho] at hro
   cases x with
   | func k' =>
    simp only at hro
    obtain ⟨F,hF⟩:=Option.isSome_iff_exists.1 hro
    exact zms g n d k ops o ho hF h
   | _=>simp at hro
  ·exact zmr g n d k ops o hne h
 have hmem:∀ σ σ1,stepW (callN g n d) g d k o σ=some σ1→σ1.mem=σ.mem:=fun σ σ1 h=>by
  have:=(hL σ σ1 h).2.1
  rcases hc with hc | hc <;> rw [hc] at this <;> exact this
 refine ⟨hmem σ σ1 h,fun τ he hr=>?_⟩
 obtain ⟨l1,_,l3⟩:=hL σ σ1 h
 obtain ⟨τ1,t1,t2,_⟩:=l3 τ (fun t _=>by rw [he]) (by
  rcases hc with hc | hc <;> rw [hc]
  ·trivial
  ·exact hr)
 refine ⟨τ1,t1,funext fun t=>?_,hmem τ τ1 t1⟩
 by_cases ht:t∈writesOf g k o
 ·exact t2 t ht
 ·rw [(hL τ τ1 t1).1 t ht,l1 t ht,he]
theorem ro_ops {g:Cfg} {d k:Nat} {ops:Array Oper}:∀ (l:List Oper) (n:Nat) (σ σ1:St),(l.all (roOp g k)=true)→evOps g n d k ops l σ=some σ1 →
 σ1.mem=σ.mem∧∀ τ:St,τ.env=σ.env→Rev σ.mem τ.mem→∃ τ1,evOps g n d k ops l τ=some τ1∧τ1.env=σ1.env∧τ1.mem=τ.mem
 | [],n,σ,σ1,_,h=>by
  cases n with
  | zero=>rw [evOps] at h;cases h
  | succ n=>rw [evOps] at h;cases h;exact ⟨rfl,fun τ he _=>⟨τ,by rw [evOps],he,rfl⟩⟩
 | o :: l,n,σ,σ1,hl,h=>by
  cases n with
  | zero=>rw [evOps] at h;cases h
  | succ n =>
   rw [List.all_cons,Bool.and_eq_true] at hl
   rw [evOps,Option.bind_eq_some_iff] at h
   obtain ⟨want,hw,h⟩:=h
   rw [Option.bind_eq_some_iff] at h
   obtain ⟨σ2,h2,h⟩:=h
   obtain ⟨m1,e1⟩:=ro_ops l n σ2 σ1 hl.2 h
   cases want with
   | true =>
    simp only [if_true] at h2
    have hng:isGive g k o.dst=false:=by
     have:=hl.1
     unfold roOp at this
     rw [Bool.and_eq_true,Bool.not_eq_true'] at this
     exact this.1
    rw [zgw hng] at h2
    obtain ⟨m2,e2⟩:=ro_step (ops:=ops) hl.1 h2
    refine ⟨m1.trans m2,fun τ he hr=>?_⟩
    obtain ⟨τ2,a1,a2,a3⟩:=e2 τ he hr
    rw [← zgw hng] at a1
    obtain ⟨τ1,b1,b2,b3⟩:=e1 τ2 a2 (by rw [m2,a3];exact hr)
    exact ⟨τ1,by rw [evOps,he,hw,Option.bind_some,if_pos rfl,a1,Option.bind_some,b1],b2,b3.trans a3⟩
   | false =>
    simp only [Bool.false_eq_true,if_false,Option.some.injEq] at h2
    subst h2
    refine ⟨m1,fun τ he hr=>?_⟩
    obtain ⟨τ1,b1,b2,b3⟩:=e1 { τ with env:=putD τ.env o.dst .skp } (by simp only [he]) hr
    exact ⟨τ1,by rw [evOps,he,hw,Option.bind_some,if_neg (by simp),Option.bind_some,← he];exact b1,b2,b3⟩
def likeO (m m':Mem):Out→Out→Prop
 | .norm σ,.norm τ=>σ.mem=m∧τ.env=σ.env∧τ.mem=m'
 | .exit i σ,.exit j τ=>i=j∧σ.mem=m∧τ.env=σ.env∧τ.mem=m'
 | .ret σ,.ret τ=>σ.mem=m∧τ.env=σ.env∧τ.mem=m'
 | _,_=>False
def memO:Out→Mem
 | .norm σ=>σ.mem
 | .exit _ σ=>σ.mem
 | .ret σ=>σ.mem
theorem ro_ev {g:Cfg} {d k:Nat}:∀ (n:Nat) (c:Code) (σ:St) (out:Out),roCode g k c=true→evN g n d k c σ=some out →
 memO out=σ.mem∧∀ τ:St,τ.env=σ.env→Rev σ.mem τ.mem→∃ out',evN g n d k c τ=some out'∧likeO σ.mem τ.mem out out'
 | 0,c,σ,out,_,h=>by rw [evN] at h;cases h
 | n+1,c,σ,out,hro,h=>by
  cases c with
  | skip=>rw [evN] at h;cases h;exact ⟨rfl,fun τ he _=>⟨.norm τ,by rw [evN],rfl,he,rfl⟩⟩
  | label l=>rw [evN] at h;cases h;exact ⟨rfl,fun τ he _=>⟨.norm τ,by rw [evN],rfl,he,rfl⟩⟩
  | exit i=>rw [evN] at h;cases h;exact ⟨rfl,fun τ he _=>⟨.exit i τ,by rw [evN],rfl,rfl,he,rfl⟩⟩
  | ret=>rw [evN] at h;cases h;exact ⟨rfl,fun τ he _=>⟨.ret τ,by rw [evN],rfl,he,rfl⟩⟩
  | region id ops draw =>
   simp only [roCode,Bool.and_eq_true,Option.isNone_iff_eq_none] at hro
   have hg1:∀ σ,ghoAt g d k id σ=some σ:=fun σ=>by unfold ghoAt;rw [hro.2.1]
   have hg2:∀ σ,ghoAt g d k (behind id) σ=some σ:=fun σ=>by unfold ghoAt;rw [hro.2.2]
   rw [evN,hg1,Option.bind_some,Option.bind_eq_some_iff] at h
   obtain ⟨σ1,h1,h⟩:=h
   rw [hg2] at h
   cases h
   obtain ⟨m1,e1⟩:=ro_ops _ _ _ _ hro.1 h1
   refine ⟨m1,fun τ he hr=>?_⟩
   obtain ⟨τ1,a1,a2,a3⟩:=e1 τ he hr
   exact ⟨.norm τ1,by rw [evN,hg1,Option.bind_some,a1,Option.bind_some,hg2];rfl,m1,a2,a3⟩
  | seq a b =>
   simp only [roCode,Bool.and_eq_true] at hro
   rw [evN,Option.bind_eq_some_iff] at h
   obtain ⟨o1,h1,h⟩:=h
   obtain ⟨m1,e1⟩:=ro_ev n a σ o1 hro.1 h1
   cases o1 with
   | norm σ1 =>
    obtain ⟨m2,e2⟩:=ro_ev n b σ1 out hro.2 h
    have m1:σ1.mem=σ.mem:=m1
    refine ⟨m2.trans m1,fun τ he hr=>?_⟩
    obtain ⟨o2,a1,a2⟩:=e1 τ he hr
    cases o2 with
    | norm τ1 =>
     obtain ⟨_,a3,a4⟩:=a2
     obtain ⟨o3,b1,b2⟩:=e2 τ1 a3 (by rw [m1,a4];exact hr)
     refine ⟨o3,by rw [evN,a1,Option.bind_some];exact b1,?_⟩
     rw [m1,a4] at b2
     exact b2
    | exit i τ1=>exact a2.elim
    | ret τ1=>exact a2.elim
   | exit i σ1 =>
    cases h
    refine ⟨m1,fun τ he hr=>?_⟩
    obtain ⟨o2,a1,a2⟩:=e1 τ he hr
    cases o2 with
    | exit j τ1=>exact ⟨_,by rw [evN,a1,Option.bind_some];rfl,a2⟩
    | norm τ1=>exact a2.elim
    | ret τ1=>exact a2.elim
   | ret σ1 =>
    cases h
    refine ⟨m1,fun τ he hr=>?_⟩
    obtain ⟨o2,a1,a2⟩:=e1 τ he hr
    cases o2 with
    | ret τ1=>exact ⟨_,by rw [evN,a1,Option.bind_some];rfl,a2⟩
    | norm τ1=>exact a2.elim
    | exit i τ1=>exact a2.elim
  | cond x a b =>
   simp only [roCode,Bool.and_eq_true] at hro
   rw [evN,Option.bind_eq_some_iff] at h
   obtain ⟨t,ht,h⟩:=h
   cases t with
   | true =>
    obtain ⟨m1,e1⟩:=ro_ev n a σ out hro.1 h
    refine ⟨m1,fun τ he hr=>?_⟩
    obtain ⟨o2,a1,a2⟩:=e1 τ he hr
    exact ⟨o2,by rw [evN,he,ht,Option.bind_some,if_pos rfl,a1],a2⟩
   | false =>
    obtain ⟨m1,e1⟩:=ro_ev n b σ out hro.2 h
    refine ⟨m1,fun τ he hr=>?_⟩
    obtain ⟨o2,a1,a2⟩:=e1 τ he hr
    exact ⟨o2,by rw [evN,he,ht,Option.bind_some,if_neg (by simp),a1],a2⟩
  | block id a =>
   simp only [roCode] at hro
   rw [evN,Option.bind_eq_some_iff] at h
   obtain ⟨o1,h1,h⟩:=h
   obtain ⟨m1,e1⟩:=ro_ev n a σ o1 hro h1
   cases h
   have hmb:memO (o1.blk id)=memO o1:=by
    unfold Out.blk
    cases o1 with
    | exit i σ1=>simp only;split <;> rfl
    | _=>rfl
   refine ⟨hmb.trans m1,fun τ he hr=>?_⟩
   obtain ⟨o2,a1,a2⟩:=e1 τ he hr
   refine ⟨o2.blk id,by rw [evN,a1,Option.bind_some],?_⟩
   cases o1 with
   | norm σ1=>cases o2 with
    | norm τ1=>exact a2
    | exit i τ1=>exact a2.elim
    | ret τ1=>exact a2.elim
   | ret σ1=>cases o2 with
    | ret τ1=>exact a2
    | norm τ1=>exact a2.elim
    | exit i τ1=>exact a2.elim
   | exit i σ1=>cases o2 with
    | exit j τ1 =>
     obtain ⟨rfl,a3⟩:=a2
     unfold Out.blk
     by_cases hi:i=id
     ·simp only [hi,if_true];exact a3
     ·simp only [hi,if_false];exact ⟨rfl,a3⟩
    | norm τ1=>exact a2.elim
    | ret τ1=>exact a2.elim
  | _=>simp [roCode] at hro
theorem ro_call {g:Cfg} {n d k:Nat} {args:List AV} {mem m':Mem} {r:AV} (hro:roFn g k=true) (h:callN g n d k args mem=some (r,m')) :
 m'=memKill (fun k=>decide (d < k.1)) mem∧∀ mem2,Rev mem mem2→∃ m2,callN g n d k args mem2=some (r,m2):=by
 cases n with
 | zero=>rw [callN] at h;cases h
 | succ n =>
  unfold roFn at hro
  simp only [Bool.and_eq_true,Option.isNone_iff_eq_none] at hro
  obtain ⟨h0,hend,hro⟩:=hro
  rw [callN,h0] at h
  simp only at h
  cases hf:g.P.funcs[k]? with
  | none=>rw [hf] at hro;cases hro
  | some fn =>
   rw [hf] at hro h
   simp only [Bool.and_eq_true] at hro h
   cases hb:fn.body with
   | none=>rw [hb] at hro;exact absurd hro.1 (by simp)
   | some c =>
    rw [hb] at hro h
    simp only at hro h
    split at h
    ·cases h
    rename_i hok
    rw [Option.bind_eq_some_iff] at h
    obtain ⟨out,hout,h⟩:=h
    rw [Option.bind_eq_some_iff] at h
    obtain ⟨σd,hσd,h⟩:=h
    have hg:∀ σ,ghoAt g (d+1) k atEnd σ=some σ:=fun σ=>by unfold ghoAt;rw [hend]
    rw [hg,Option.bind_some,Option.bind_eq_some_iff] at h
    obtain ⟨r0,hr0,h⟩:=h
    simp only [Option.some.injEq,Prod.mk.injEq] at h
    obtain ⟨rfl,rfl⟩:=h
    obtain ⟨m1,e1⟩:=ro_ev n c _ out hro.1 hout
    obtain ⟨t,hres⟩:∃ t,fn.results.toList=[.tmp t]:=by
     have:=hro.2
     split at this
     ·rename_i t ht;exact ⟨t,ht⟩
     ·cases this
    have hret:∀ σ:St,retVal g.P (d+1) fn σ=some (σ.env t):=fun σ=>by
     unfold retVal
     rw [hres]
     rfl
    have hmd:σd.mem=mem:=by
     cases out with
     | norm σ1=>cases hσd;exact m1
     | ret σ1=>cases hσd;exact m1
     | exit i σ1=>cases hσd
    refine ⟨by rw [hmd],fun mem2 hr2=>?_⟩
    obtain ⟨o2,a1,a2⟩:=e1 { env:=fun t=>(args[t]?).getD .dead,mem:=mem2 } rfl hr2
    have:∃ τd,o2.done=some τd∧τd.env=σd.env:=by
     cases out with
     | norm σ1=>cases o2 with
      | norm τ1=>cases hσd;exact ⟨τ1,rfl,a2.2.1⟩
      | exit i τ1=>exact a2.elim
      | ret τ1=>exact a2.elim
     | ret σ1=>cases o2 with
      | ret τ1=>cases hσd;exact ⟨τ1,rfl,a2.2.1⟩
      | exit i τ1=>exact a2.elim
      | norm τ1=>exact a2.elim
     | exit i σ1=>cases hσd
    obtain ⟨τd,hd1,hd2⟩:=this
    refine ⟨memKill (fun k=>decide (d < k.1)) τd.mem,?_⟩
    rw [callN,h0]
    simp only [hf,hb]
    rw [if_neg hok,a1,Option.bind_some,hd1,Option.bind_some,hg,Option.bind_some,hret,Option.bind_some,hd2]
    rw [hret] at hr0
    cases hr0
    rfl

theorem stepW_local (g:Cfg) (n d f:Nat) (ops:Array Oper) (o:Oper) {σ σ1:St} (h:stepW (callN g n d) g d f o σ=some σ1) :
 LocalW (stepW (callN g n d) g d f o) (readsOf ops o) (writesOf g f o) (clsOf g f o) (d,o.dst.getD 0) σ σ1:=by
 rcases isV (op:=o.op) with ⟨x,args,argTypes,ho⟩ | hne
 ·by_cases hcx:∃ k F,x=.func k∧lookN k g.ctx=some F
  ·obtain ⟨k,F,rfl,hF⟩:=hcx
   exact zms g n d f ops o ho hF h
  ·have hall:∀ σ':St,(∀ t∈readsOf ops o,σ'.env t=σ.env t)→opnd σ'.env x=opnd σ.env x∧∀ y∈args.toList,opnd σ'.env y=opnd σ.env y:=by
    intro σ' hR
    refine ⟨zbc hR (by rw [ho];simp [Op.operands,Call.operands]),fun y hy=>zbc hR ?_⟩
    rw [ho]
    simp only [Op.operands,Call.operands]
    exact Array.mem_append_right _ (by simpa using hy)
   have hW:writesOf g f o=o.dst.toList:=by unfold writesOf;rw [ho];simp
   rw [zel ho] at h
   rw [Option.bind_eq_some_iff] at h
   obtain ⟨kc,hkc,h⟩:=h
   rw [Option.bind_eq_some_iff] at h
   obtain ⟨rm,hrm,h⟩:=h
   have hput:∀ t,t ∉ writesOf g f o→putD σ.env o.dst rm.1 t=σ.env t:=fun t ht=>zha fun e=>ht (by rw [hW,e];simp)
   have hput2:∀ (e e':Nat→AV) t,t∈writesOf g f o→putD e' o.dst rm.1 t=putD e o.dst rm.1 t:=fun e e' t ht=>by
    rw [hW] at ht
    cases hd:o.dst with
    | none=>rw [hd] at ht;simp at ht
    | some u=>rw [hd] at ht;simp at ht;subst ht;simp [putD,upd]
   have hcls:clsOf g f o=if isRo g f o.dst then .l else .m:=by
    unfold clsOf
    rw [ho]
    cases x with
    | func k =>
     cases hl:lookN k g.ctx with
     | none=>simp [hl]
     | some F=>exact absurd ⟨k,F,rfl,hl⟩ hcx
    | _=>rfl
   have ha:∀ σ':St,(∀ t∈readsOf ops o,σ'.env t=σ.env t)→args.toList.map (fun y=>(opnd σ'.env y).copy)=args.toList.map (fun y=>(opnd σ.env y).copy):=fun σ' hR=>List.map_congr_left fun y hy=>by rw [(hall σ' hR).2 y hy]
   have hk:∀ σ':St,(∀ t∈readsOf ops o,σ'.env t=σ.env t)→calleeOf σ'.env x=some kc:=fun σ' hR=>by unfold calleeOf at hkc ⊢; rw [(hall σ' hR).1];exact hkc
   cases hr:isRo g f o.dst with
   | false =>
    rw [hr] at hcls
    unfold callEnd at h
    rw [hr] at h
    simp only [Bool.false_eq_true,if_false,Option.some.injEq] at h hcls
    subst h
    refine ⟨hput,by rw [hcls];trivial,fun σ' hR hA=>?_⟩
    rw [hcls] at hA
    have hm:σ'.mem=σ.mem:=hA
    refine ⟨{ env:=putD σ'.env o.dst rm.1,mem:=rm.2 },?_,fun t ht=>hput2 _ _ t ht,by rw [hcls];rfl⟩
    rw [zel ho,hk σ' hR]
    simp only [Option.bind_some]
    rw [ha σ' hR,hm,hrm]
    simp only [Option.bind_some,callEnd,hr,Bool.false_eq_true,if_false]
   | true =>
    rw [hr] at hcls
    unfold callEnd at h
    rw [hr] at h
    simp only [if_true] at h hcls
    split at h
    ·rename_i hfn
     simp only [Option.some.injEq] at h
     subst h
     refine ⟨hput,by rw [hcls];rfl,fun σ' hR hA=>?_⟩
     rw [hcls] at hA
     obtain ⟨m2,hm2⟩:=(ro_call hfn hrm).2 σ'.mem hA
     refine ⟨{ env:=putD σ'.env o.dst rm.1,mem:=σ'.mem },?_,fun t ht=>hput2 _ _ t ht,by rw [hcls];trivial⟩
     rw [zel ho,hk σ' hR]
     simp only [Option.bind_some]
     rw [ha σ' hR,hm2]
     simp only [Option.bind_some,callEnd,hr,if_true,hfn]
    ·cases h
 ·exact zmr g n d f ops o hne h

theorem takes_reads {g:Cfg} {f:Nat} {ops:Array Oper} {o:Oper} {t:Nat} (h:t∈takesOf g f o):t∈readsOf ops o:=by
 unfold takesOf at h
 unfold readsOf
 refine List.mem_append_left _ ?_
 dsimp only at h
 split at h
 ·split at h
  ·exact h
  ·cases h
 all_goals first | exact h | cases h

def stepB (S:Oper→St→Option St) (ops:Array Oper) (o:Oper) (b:Bool) (σ:St):Option St :=
 if wants ops σ.env o=some b then (if b then S o σ else some { σ with env:=putD σ.env o.dst .skp }) else none

theorem stepG_iff {S:Oper→St→Option St} {ops:Array Oper} {o:Oper} {σ σ1:St}:stepG S ops o σ=some σ1 ↔ ∃ b,stepB S ops o b σ=some σ1:=by
 unfold stepG stepB
 constructor
 ·intro h
  rw [Option.bind_eq_some_iff] at h
  obtain ⟨b,hb,h⟩:=h
  exact ⟨b,by rw [if_pos hb];exact h⟩
 ·rintro ⟨b,h⟩
  split at h
  ·rename_i hb;rw [hb];exact h
  ·cases h

def clsB (g:Cfg) (f:Nat) (o:Oper) (b:Bool):Cls:=if b then clsOf g f o else .p

theorem zia (g:Cfg) (n d f:Nat) (ops:Array Oper) (o:Oper) (b:Bool):Local (stepB (stepW (callN g n d) g d f) ops o b) (readsOf ops o) (writesOf g f o) (clsB g f o b) (d,o.dst.getD 0):=by
 have key:∀ σ σ1,stepB (stepW (callN g n d) g d f) ops o b σ=some σ1→LocalW (stepB (stepW (callN g n d) g d f) ops o b) (readsOf ops o) (writesOf g f o) (clsB g f o b) (d,o.dst.getD 0) σ σ1:=by
  intro σ σ1 h
  unfold stepB at h
  split at h
  ·rename_i hb
   cases b with
   | true =>
    simp only [if_true] at h
    obtain ⟨h1,h2,h3⟩:=stepW_local g n d f ops o h
    refine ⟨h1,h2,fun σ' hR hA=>?_⟩
    obtain ⟨σ1',a1,a2,a3⟩:=h3 σ' hR hA
    refine ⟨σ1',?_,a2,a3⟩
    unfold stepB
    rw [wants_eq hR,if_pos hb]
    exact a1
   | false =>
    simp only [Bool.false_eq_true,if_false,Option.some.injEq] at h
    subst h
    refine ⟨fun t ht=>zha fun e=>ht (by rw [zhn,e];simp),rfl,fun σ' hR _=>⟨{ σ' with env:=putD σ'.env o.dst .skp },?_,fun t ht=>?_,trivial⟩⟩
    ·unfold stepB
     rw [wants_eq hR,if_pos hb]
     rfl
    ·show putD σ'.env o.dst .skp t=putD σ.env o.dst .skp t
     rw [zhn,List.mem_append] at ht
     by_cases hd:o.dst=some t
     ·rw [hd];simp [putD,upd]
     ·rw [zha hd,zha hd]
      have ht2:=ht.resolve_left fun hh=>hd (by
       cases hdd:o.dst with
       | none=>rw [hdd] at hh;simp at hh
       | some u=>rw [hdd] at hh;simp at hh;rw [hh])
      exact hR t (takes_reads ht2)
  ·cases h
 exact ⟨fun σ σ1 h=>(key σ σ1 h).1,fun σ σ1 h=>(key σ σ1 h).2.1,fun σ σ1 σ' h=>(key σ σ1 h).2.2 σ'⟩

theorem stepB_a {g:Cfg} {n d f:Nat} {ops:Array Oper} {o:Oper} {b:Bool} {σ σ1:St} (hc:clsB g f o b=.a) (h:stepB (stepW (callN g n d) g d f) ops o b σ=some σ1):o.dst.isSome=true:=by
 cases b with
 | false=>cases hc
 | true =>
  have hc:clsOf g f o=.a:=hc
  unfold stepB at h
  split at h
  ·simp only [if_true] at h
   have hne:∀ x args argTypes,o.op≠.call { callee:=.value x,args,argTypes }:=by
    intro x args at_ ho
    unfold clsOf at hc
    rw [ho] at hc
    cases x with
    | func k=>simp only at hc;split at hc <;> first | cases hc | (split at hc <;> cases hc)
    | _=>simp only at hc;split at hc <;> cases hc
   rw [zkz hne,Option.bind_eq_some_iff] at h
   obtain ⟨vs,hv,_⟩:=h
   exact a_dst hc hv
  ·cases h

theorem zgr {a b:List Nat} (h:disj a b=true) {t:Nat} (ha:t∈a):t ∉ b:=by
 unfold disj at h
 rw [List.all_eq_true] at h
 have:=h t ha
 simpa using this

theorem clsB_ok {g:Cfg} {f:Nat} {x y:Oper} (h:clsOK (clsOf g f x) (clsOf g f y)=true) (bx by_:Bool):clsOK (clsB g f x bx) (clsB g f y by_)=true:=by
 cases bx with
 | false=>cases hh:clsB g f y by_ <;> rfl
 | true =>
  cases by_ with
  | false=>show clsOK (clsOf g f x) .p=true;cases clsOf g f x <;> rfl
  | true=>exact h

theorem load_away {g:Cfg} {d f:Nat} {call:Nat→List AV→(Key→Option (List C))→Option (AV × (Key→Option (List C)))} {x:Oper} {lt:TypeId} {a:Operand} {t b:Nat} (hx:x.op=.load lt a) (hd:x.dst=some t) (htk:g.tk f (some t)=false)
 (haw:g.away.contains (f,t,b)=true) {σ σ1:St} (h:stepW call g d f x σ=some σ1) :
 σ1.mem=σ.mem∧∀ σ':St,opnd σ'.env a=opnd σ.env a→(∀ k,k≠(d,b)→σ'.mem k=σ.mem k)→∃ σ1',stepW call g d f x σ'=some σ1'∧σ1'.mem=σ'.mem∧σ1'.env t=σ1.env t∧∀ u,u≠t→σ1'.env u=σ'.env u:=by
 obtain ⟨dst,op,ty,pos,after,guard⟩:=x
 simp only at hx hd
 subst hx hd
 simp only [stepW,Option.bind_eq_some_iff] at h
 obtain ⟨⟨v,σ2⟩,h,h1⟩:=h
 simp only [Option.some.injEq] at h1
 simp only [opE,htk,Bool.false_eq_true,if_false,bind,Option.bind_eq_some_iff] at h
 obtain ⟨i,hi,h⟩:=h
 split at h
 ·rename_i k off hq
  simp only [Option.bind_eq_some_iff] at h
  obtain ⟨cs,hcs,sg,hsg,h⟩:=h
  split at h
  ·rename_i hdd
   simp only [Option.bind_eq_some_iff,Option.some.injEq,Prod.mk.injEq] at h
   obtain ⟨v',hv,rfl,rfl⟩:=h
   subst h1
   refine ⟨rfl,fun σ' ha hm=>⟨{ σ' with env:=putD σ'.env (some t) v' },?_,rfl,by simp [putD,upd],fun u hu=>by simp [putD,upd,hu]⟩⟩
   have hk:k≠(d,b):=by
    rintro rfl
    rw [Bool.and_eq_true,Bool.not_eq_true'] at hdd
    have h2:=hdd.2
    simp only [awayB] at h2
    rw [List.any_eq_false] at h2
    have:=h2 (f,t,b) (by simpa using haw)
    simp at this
   simp only [stepW,opE,htk,Bool.false_eq_true,if_false,bind,hi,Option.bind_some,ha,hq,hm k hk,hcs,hsg,hv,hdd,if_true]
  ·cases h
 ·rename_i hq
  simp only [Option.bind_eq_some_iff,Option.some.injEq,Prod.mk.injEq] at h
  obtain ⟨sg,hsg,v',hv,rfl,rfl⟩:=h
  subst h1
  refine ⟨rfl,fun σ' ha hm=>⟨{ σ' with env:=putD σ'.env (some t) v' },?_,rfl,by simp [putD,upd],fun u hu=>by simp [putD,upd,hu]⟩⟩
  simp only [stepW,opE,bind,hi,Option.bind_some,ha,hq,hsg,hv]
 ·cases h

theorem store_late {g:Cfg} {d f:Nat} {call:Nat→List AV→(Key→Option (List C))→Option (AV × (Key→Option (List C)))} {y:Oper} {st:TypeId} {b t:Nat} {x:Operand} (hy:y.op=.store st (.tmp b) x)
 (haw:g.away.contains (f,t,b)=true) {σ σ1:St} (h:stepW call g d f y σ=some σ1):∀ k,k≠(d,b)→σ1.mem k=σ.mem k:=by
 obtain ⟨dst,op,ty,pos,after,guard⟩:=y
 simp only at hy
 subst hy
 simp only [stepW,Option.bind_eq_some_iff] at h
 obtain ⟨⟨v,σ2⟩,h,h1⟩:=h
 simp only [Option.some.injEq] at h1
 simp only [opE,bind,Option.bind_eq_some_iff] at h
 obtain ⟨i,hi,h⟩:=h
 split at h
 ·rename_i k off hq
  simp only [Option.bind_eq_some_iff] at h
  obtain ⟨cs,hcs,new,hnew,h⟩:=h
  split at h
  ·rename_i hcond
   simp only [Option.some.injEq,Prod.mk.injEq] at h
   obtain ⟨rfl,rfl⟩:=h
   subst h1
   have hk:k=(d,b):=by
    have h2:=hcond.2.2.2.2
    simp only [lateB] at h2
    rw [List.any_eq_false] at h2
    have:=h2 (f,t,b) (by simpa using haw)
    simpa using this
   intro k' hk'
   subst hk
   simp [upd,hk']
  ·cases h
 ·cases h

theorem take_late {g:Cfg} {d f:Nat} {call:Nat→List AV→(Key→Option (List C))→Option (AV × (Key→Option (List C)))} {y:Oper} {st:TypeId} {b t:Nat} (hy:y.op=.load st (.tmp b)) (htk:g.tk f y.dst=true)
 (haw:g.away.contains (f,t,b)=true) {σ σ1:St} (h:stepW call g d f y σ=some σ1):∀ k,k≠(d,b)→σ1.mem k=σ.mem k:=by
 obtain ⟨dst,op,ty,pos,after,guard⟩:=y
 simp only at hy htk
 subst hy
 simp only [stepW,Option.bind_eq_some_iff] at h
 obtain ⟨⟨v,σ2⟩,h,h1⟩:=h
 simp only [Option.some.injEq] at h1
 simp only [opE,bind,htk,if_true,Option.bind_eq_some_iff] at h
 obtain ⟨i,hi,h⟩:=h
 split at h
 ·rename_i k off hq
  simp only [Option.bind_eq_some_iff] at h
  obtain ⟨cs,hcs,sg,hsg,h⟩:=h
  split at h
  ·cases h
  ·rename_i hcond
   simp only [Option.bind_eq_some_iff,Option.some.injEq,Prod.mk.injEq] at h
   obtain ⟨v',hv,rfl,rfl⟩:=h
   subst h1
   have hk:k=(d,b):=by
    have h2:lateB g d f (.tmp b) k=false:=by
     cases hl:lateB g d f (.tmp b) k with
     | false=>rfl
     | true=>exact absurd (.inr hl) hcond
    simp only [lateB] at h2
    rw [List.any_eq_false] at h2
    have:=h2 (f,t,b) (by simpa using haw)
    simpa using this
   intro k' hk'
   subst hk
   simp [upd,hk']
 ·simp only [Option.bind_eq_some_iff,Option.some.injEq,Prod.mk.injEq] at h
  obtain ⟨sg,hsg,v',hv,rfl,rfl⟩:=h
  subst h1
  intro k _
  rfl
 ·cases h

theorem zsa {g:Cfg} {f:Nat} {x y:Oper} (h:awayPair g f x y=true):∃ lt a b t,x.op=.load lt a∧x.dst=some t∧x.guard=none∧y.guard=none∧g.tk f (some t)=false∧g.away.contains (f,t,b)=true∧((∃ st v,y.op=.store st (.tmp b) v)∨∃ st,y.op=.load st (.tmp b)∧g.tk f y.dst=true):=by
 unfold awayPair at h
 split at h
 ·rename_i lt a st b v t h1 h2 h3 h4 h5
  rw [Bool.and_eq_true,Bool.not_eq_true'] at h
  exact ⟨_,_,_,_,h1,h3,h4,h5,h.1,h.2,.inl ⟨_,_,h2⟩⟩
 ·rename_i lt a st b t h1 h2 h3 h4 h5
  rw [Bool.and_eq_true,Bool.and_eq_true,Bool.not_eq_true'] at h
  exact ⟨_,_,_,_,h1,h3,h4,h5,h.1,h.2.2,.inr ⟨_,h2,h.2.1⟩⟩
 ·cases h

theorem extPair_spec {x y:Oper} (h:extPair x y=true):∃ t i j a b,x.op=.extract (.tmp t) i∧y.op=.extract (.tmp t) j∧x.dst=some a∧y.dst=some b∧x.guard=none∧y.guard=none∧i≠j∧a≠b∧a≠t∧b≠t:=by
 unfold extPair at h
 split at h
 ·rename_i t i t' j a b h1 h2 h3 h4 h5 h6
  simp only [Bool.and_eq_true,beq_iff_eq,bne_iff_ne,ne_eq] at h
  obtain ⟨rfl,e1,e2,e3,e4⟩:=h
  exact ⟨_,_,_,_,_,h1,h2,h3,h4,h5,h6,e1,e2,e3,e4⟩
 ·cases h
theorem zhg {call:Nat→List AV→(Key→Option (List C))→Option (AV × (Key→Option (List C)))} {g:Cfg} {d f:Nat} {x:Oper} {t i a:Nat} (hx:x.op=.extract (.tmp t) i) (hd:x.dst=some a) (σ σ1:St) :
 stepW call g d f x σ=some σ1 ↔ ∃ vs ag cs v,σ.env t=.tu vs∧vs[i]?=some (ag,cs)∧mkAV ag cs=some v∧σ1={ σ with env:=putD (upd σ.env t (.tu (vs.set i (ag,cs.map fun _=>.dead)))) (some a) v }:=by
 obtain ⟨dst,op,ty,pos,after,guard⟩:=x
 simp only at hx hd
 subst hx hd
 simp only [stepW,opE]
 constructor
 ·intro h
  rw [Option.bind_eq_some_iff] at h
  obtain ⟨⟨v,σ2⟩,h,h1⟩:=h
  split at h
  ·rename_i vs hvs
   simp only [bind,Option.bind_eq_some_iff,Option.some.injEq,Prod.mk.injEq] at h
   obtain ⟨⟨ag,cs⟩,hi,w,hw,rfl,rfl⟩:=h
   simp only [Option.some.injEq] at h1
   exact ⟨vs,ag,cs,w,hvs,hi,hw,h1.symm⟩
  ·cases h
 ·rintro ⟨vs,ag,cs,v,h1,h2,h3,rfl⟩
  simp only [h1,bind,h2,Option.bind_some,h3]
theorem extract_swap {call:Nat→List AV→(Key→Option (List C))→Option (AV × (Key→Option (List C)))} {g:Cfg} {d f:Nat} {x y:Oper} {t i j a b:Nat} (hx:x.op=.extract (.tmp t) i) (hy:y.op=.extract (.tmp t) j) (hdx:x.dst=some a) (hdy:y.dst=some b)
 (hij:i≠j) (hab:a≠b) (hat:a≠t) (hbt:b≠t) {σ σ1 σ2:St} (h1:stepW call g d f x σ=some σ1) (h2:stepW call g d f y σ1=some σ2):∃ σ1',stepW call g d f y σ=some σ1'∧stepW call g d f x σ1'=some σ2:=by
 obtain ⟨vs,ag,cs,v,e1,e2,e3,rfl⟩:=(zhg hx hdx _ _).1 h1
 obtain ⟨vs2,ag2,cs2,v2,f1,f2,f3,rfl⟩:=(zhg hy hdy _ _).1 h2
 simp only [putD,upd,if_neg (Ne.symm hat),if_true,AV.tu.injEq] at f1
 subst f1
 rw [List.getElem?_set_ne hij] at f2
 refine ⟨_,(zhg hy hdy _ _).2 ⟨vs,ag2,cs2,v2,e1,f2,f3,rfl⟩,(zhg hx hdx _ _).2 ⟨vs.set j (ag2,cs2.map fun _=>.dead),ag,cs,v,?_,?_,e3,?_⟩⟩
 ·simp [putD,upd,Ne.symm hbt]
 ·rw [List.getElem?_set_ne (Ne.symm hij)]
  exact e2
 ·congr 1
  funext u
  simp only [putD,upd]
  by_cases ua:u=a
  ·subst ua;simp [hab,hat,hbt]
  ·by_cases ub:u=b
   ·subst ub;simp [ua,hat,hbt]
   ·by_cases ut:u=t
    ·subst ut;simp [ua,ub,List.set_comm _ _ hij]
    ·simp [ua,ub,ut]

theorem zrr {g:Cfg} {f:Nat} {x y:Oper} (h:givePair g f x y=true):∃ k args at_ e a b F,x.op=.call { callee:=.value (.func k),args,argTypes:=at_ }∧y.op=.alloc e∧x.dst=some a∧y.dst=some b∧x.guard=none∧y.guard=none∧isGive g f (some a)=true∧lookN k g.octx=some F∧a≠b∧posOf b args.toList 0=none:=by
 unfold givePair at h
 split at h
 ·rename_i k args at_ e a b h1 h2 h3 h4 h5 h6
  simp only [Bool.and_eq_true,bne_iff_ne,ne_eq,Option.isNone_iff_eq_none] at h
  obtain ⟨e1,e2,e3,e4⟩:=h
  obtain ⟨F,hF⟩:=Option.isSome_iff_exists.1 e2
  exact ⟨_,_,_,_,_,_,F,h1,h2,h3,h4,h5,h6,e1,hF,e3,e4⟩
 ·cases h
theorem zmi {b:Nat}:∀ {l:List Operand} {i:Nat},posOf b l i=none→∀ y∈l,y≠.tmp b
 | [],i,_,y,hy=>by cases hy
 | x :: r,i,h,y,hy=>by
  cases x with
  | tmp u =>
   simp only [posOf] at h
   split at h
   ·cases h
   ·rename_i hne
    rcases List.mem_cons.1 hy with rfl | hy
    ·rintro he;cases he;exact hne rfl
    ·exact zmi h y hy
  | _ =>
   simp only [posOf] at h
   rcases List.mem_cons.1 hy with rfl | hy
   ·simp
   ·exact zmi h y hy
theorem zrg (v:Value):(C.ofValue v).killB=C.ofValue v:=by
 unfold C.ofValue
 split
 ·rfl
 ·split <;> rfl
theorem give_octx {call:Nat→List AV→(Key→Option (List C))→Option (AV × (Key→Option (List C)))} {g:Cfg} {d f:Nat} {x:Oper} {k:Nat} {args:Array Operand} {at_:Array TypeId} {a:Nat} {F:List AV→Option AV} (hx:x.op=.call { callee:=.value (.func k),args,argTypes:=at_ }) (hd:x.dst=some a) (hg:isGive g f (some a)=true) (hF:lookN k g.octx=some F) (σ σ1:St) :
 stepX call g d f x σ=some σ1 ↔ nodupA args.toList=true∧∃ r,F (args.toList.map fun y=>(opnd σ.env y).killB)=some r∧σ1={ env:=putD (gaveEnv args.toList σ.env) (some a) r,mem:=σ.killB.mem }:=by
 obtain ⟨dst,op,ty,pos,after,guard⟩:=x
 simp only at hx hd
 subst hx hd
 have e:stepX call g d f { dst:=some a,op:=.call { callee:=.value (.func k),args,argTypes:=at_ },type:=ty,pos,after,guard } σ=giveStep call g d args.toList (some a) σ (some (k,[])):=by
  unfold stepX
  simp only [hg,if_true]
  rfl
 rw [e]
 unfold giveStep
 simp only [hF]
 constructor
 ·intro h
  split at h
  ·rename_i hn
   refine ⟨hn,?_⟩
   rw [Option.map_eq_some_iff] at h
   obtain ⟨rm,hrm,rfl⟩:=h
   rw [show List.isEmpty ([]:List AV)=true from rfl,if_pos rfl,Option.map_eq_some_iff] at hrm
   obtain ⟨r,hr,rfl⟩:=hrm
   exact ⟨r,hr,rfl⟩
  ·cases h
 ·rintro ⟨hn,r,hr,rfl⟩
  rw [if_pos hn,show List.isEmpty ([]:List AV)=true from rfl,if_pos rfl,hr]
  rfl
theorem give_swap {call:Nat→List AV→(Key→Option (List C))→Option (AV × (Key→Option (List C)))} {g:Cfg} {d f:Nat} {x y:Oper} {k:Nat} {args:Array Operand} {at_:Array TypeId} {e:TypeId} {a b:Nat} {F:List AV→Option AV} (hx:x.op=.call { callee:=.value (.func k),args,argTypes:=at_ }) (hy:y.op=.alloc e) (hdx:x.dst=some a) (hdy:y.dst=some b)
 (hg:isGive g f (some a)=true) (hF:lookN k g.octx=some F) (hab:a≠b) (hp:posOf b args.toList 0=none) {σ σ1 σ2:St} (h1:stepX call g d f x σ=some σ1) (h2:stepX call g d f y σ1=some σ2):∃ σ1',stepX call g d f y σ=some σ1'∧stepX call g d f x σ1'=some σ2:=by
 have sy:∀ τ τ1,stepX call g d f y τ=some τ1 ↔ ∃ i,ti g.P e=some i∧(τ.mem (d,b)=none∧¬ b=deepK)∧τ1={ env:=putD τ.env (some b) (.one (.ptr (d,b) 0)),mem:=upd τ.mem (d,b) (some (i.zero.map C.ofValue)) }:=fun τ τ1=>by
  have:stepX call g d f y τ=(opE g d f y τ).bind fun vs=>some { vs.2 with env:=putD vs.2.env y.dst vs.1 }:=by
   unfold stepX stepW
   rw [hy]
  rw [this]
  obtain ⟨dst,op,ty,pos,after,guard⟩:=y
  simp only at hy hdy
  subst hy hdy
  simp only [opE,bind]
  constructor
  ·intro h
   simp only [Option.bind_eq_some_iff] at h
   obtain ⟨⟨v,σ3⟩,⟨i,hi,t,ht,h⟩,h3⟩:=h
   cases ht
   split at h
   ·cases h
   ·rename_i hn
    simp only [Option.some.injEq,Prod.mk.injEq] at h
    obtain ⟨rfl,rfl⟩:=h
    simp only [Option.some.injEq] at h3
    exact ⟨i,hi,by simpa using hn,h3.symm⟩
  ·rintro ⟨i,hi,hn,rfl⟩
   simp [hi,hn]
 obtain ⟨hnd,r,hr,rfl⟩:=(give_octx hx hdx hg hF _ _).1 h1
 obtain ⟨i,hi,⟨hn,hnK⟩,rfl⟩:=(sy _ _).1 h2
 have hn0:σ.mem (d,b)=none:=by
  have hn:(σ.mem (d,b)).map (List.map C.killB)=none:=hn
  simpa using hn
 refine ⟨_,(sy _ _).2 ⟨i,hi,⟨hn0,hnK⟩,rfl⟩,(give_octx hx hdx hg hF _ _).2 ⟨hnd,r,?_,?_⟩⟩
 ·rw [← hr]
  congr 1
  refine List.map_congr_left fun y hy=>?_
  have hne:=zmi hp y hy
  cases y with
  | tmp u =>
   have:u≠b:=fun e=>hne (by rw [e])
   simp [opnd,putD,upd,this]
  | _=>rfl
 ·refine St.ext' (fun u=>?_) ?_
  ·simp only [putD,upd,gaveEnv]
   by_cases ub:u=b
   ·subst ub;simp [Ne.symm hab,hp,AV.killB,C.killB]
   ·by_cases ua:u=a
    ·subst ua;simp [hab]
    ·simp [ua,ub]
  ·funext K
   show upd (fun k=>(σ.mem k).map (List.map C.killB)) (d,b) _ K=(upd σ.mem (d,b) _ K).map (List.map C.killB)
   unfold upd
   by_cases hK:K=(d,b)
   ·simp only [hK,if_true,Option.map_some,List.map_map]
    congr 1
    exact List.map_congr_left fun v _=>(zrg v).symm
   ·simp only [hK,if_false]

theorem stepG_swap {g:Cfg} {n d f:Nat} {ops:Array Oper} {x y:Oper} (h:comm g f ops x y=true) {σ σ1 σ2:St} (h1:stepG (stepX (callN g n d) g d f) ops x σ=some σ1) (h2:stepG (stepX (callN g n d) g d f) ops y σ1=some σ2) :
 ∃ σ1',stepG (stepX (callN g n d) g d f) ops y σ=some σ1'∧stepG (stepX (callN g n d) g d f) ops x σ1'=some σ2:=by
 unfold comm at h
 rw [Bool.or_eq_true] at h
 rcases h with h | h
 rotate_left
 ·rw [Bool.or_eq_true] at h
  rcases h with h | h
  rotate_left
  ·obtain ⟨k,args,at_,e,a,b,F,e1,e2,e3,e4,e5,e6,e7,e8,e9,e10⟩:=zrr h
   have sx:∀ τ,stepG (stepX (callN g n d) g d f) ops x τ=stepX (callN g n d) g d f x τ:=fun τ=>by simp [stepG,wants,e5]
   have sy:∀ τ,stepG (stepX (callN g n d) g d f) ops y τ=stepX (callN g n d) g d f y τ:=fun τ=>by simp [stepG,wants,e6]
   simp only [sx,sy] at h1 h2 ⊢
   exact give_swap e1 e2 e3 e4 e7 e8 e9 e10 h1 h2
  obtain ⟨t,i,j,a,b,e1,e2,e3,e4,e5,e6,e7,e8,e9,e10⟩:=extPair_spec h
  have sx:∀ τ,stepG (stepX (callN g n d) g d f) ops x τ=stepW (callN g n d) g d f x τ:=fun τ=>by
   have:stepX (callN g n d) g d f x τ=stepW (callN g n d) g d f x τ:=by unfold stepX;rw [e1]
   simp [stepG,wants,e5,this]
  have sy:∀ τ,stepG (stepX (callN g n d) g d f) ops y τ=stepW (callN g n d) g d f y τ:=fun τ=>by
   have:stepX (callN g n d) g d f y τ=stepW (callN g n d) g d f y τ:=by unfold stepX;rw [e2]
   simp [stepG,wants,e6,this]
  simp only [sx,sy] at h1 h2 ⊢
  exact extract_swap e1 e2 e3 e4 e7 e8 e9 e10 h1 h2
 simp only [Bool.and_eq_true,Bool.not_eq_true'] at h
 obtain ⟨⟨⟨⟨c1,c2⟩,c3⟩,c4⟩,c5,c6⟩:=h
 have sxx:∀ τ,stepG (stepX (callN g n d) g d f) ops x τ=stepG (stepW (callN g n d) g d f) ops x τ:=fun τ=>by unfold stepG;rw [zgw c5]
 have sxy:∀ τ,stepG (stepX (callN g n d) g d f) ops y τ=stepG (stepW (callN g n d) g d f) ops y τ:=fun τ=>by unfold stepG;rw [zgw c6]
 simp only [sxx,sxy] at h1 h2 ⊢
 rw [Bool.or_eq_true] at c4
 rcases c4 with c4 | c4
 rotate_left
 ·obtain ⟨lt,a,b,t,e1,e3,e4,e5,e6,e7,e2⟩:=zsa c4
  have sGx:∀ τ,stepG (stepW (callN g n d) g d f) ops x τ=stepW (callN g n d) g d f x τ:=fun τ=>by simp [stepG,wants,e4]
  have sGy:∀ τ,stepG (stepW (callN g n d) g d f) ops y τ=stepW (callN g n d) g d f y τ:=fun τ=>by simp [stepG,wants,e5]
  have sBx:∀ τ,stepB (stepW (callN g n d) g d f) ops x true τ=stepW (callN g n d) g d f x τ:=fun τ=>by simp [stepB,wants,e4]
  have sBy:∀ τ,stepB (stepW (callN g n d) g d f) ops y true τ=stepW (callN g n d) g d f y τ:=fun τ=>by simp [stepB,wants,e5]
  have hcy:clsB g f y true=.m∨clsB g f y true=.t:=by
   rcases e2 with ⟨st,v,e2⟩|⟨st,e2,e8⟩
   ·exact .inl (by simp [clsB,clsOf,e2])
   ·exact .inr (by simp [clsB,clsOf,e2,e8])
  have hwx:∀ u,u∈writesOf g f x ↔ u=t:=fun u=>by simp [writesOf,e1,e3]
  rw [sGx] at h1
  rw [sGy] at h2
  obtain ⟨hm1,hext⟩:=load_away e1 e3 e6 e7 h1
  have hx:=zia g n d f ops x true
  have hy:=zia g n d f ops y true
  have hye:∀ τ τ1 τ',stepB (stepW (callN g n d) g d f) ops y true τ=some τ1→(∀ t∈readsOf ops y,τ'.env t=τ.env t)→τ'.mem=τ.mem →
   ∃ τ1',stepB (stepW (callN g n d) g d f) ops y true τ'=some τ1'∧(∀ t∈writesOf g f y,τ1'.env t=τ1.env t)∧τ1'.mem=τ1.mem:=by
   rcases hcy with hc | hc
   ·rw [hc] at hy;exact hy.ext
   ·rw [hc] at hy;exact hy.ext
  have hey:=hx.env σ σ1 (by rw [sBx];exact h1)
  have hey2:=hy.env σ1 σ2 (by rw [sBy];exact h2)
  obtain ⟨σ1',hy1,ew,mw⟩:=hye σ1 σ2 σ (by rw [sBy];exact h2) (fun u hu=>(hey u (fun hw=>zgr c1 hw hu)).symm) hm1.symm
  rw [sBy] at hy1
  have hey1:=hy.env σ σ1' (by rw [sBy];exact hy1)
  have hst:∀ k,k≠(d,b)→σ1'.mem k=σ.mem k:=by
   rcases e2 with ⟨st,v,e2⟩|⟨st,e2,e8⟩
   ·exact store_late e2 e7 hy1
   ·exact take_late e2 e8 e7 hy1
  obtain ⟨σ2',hx2,hmm,ht,hu⟩:=hext σ1' (zbc (ops:=ops) (o:=x) (x:=a) (fun u hu=>hey1 u (zgr c3 hu)) (by rw [e1];simp [Op.operands])) hst
  refine ⟨σ1',by rw [sGy];exact hy1,?_⟩
  rw [sGx,hx2]
  congr 1
  refine St.ext' (fun u=>?_) ?_
  ·by_cases hut:u=t
   ·subst hut
    rw [ht]
    exact (hey2 u (zgr c2 ((hwx u).2 rfl))).symm
   ·rw [hu u hut]
    by_cases hwy:u∈writesOf g f y
    ·exact ew u hwy
    ·rw [hey1 u hwy,hey2 u hwy,hey u (fun h=>hut ((hwx u).1 h))]
  ·rw [hmm]
   exact mw
 obtain ⟨bx,h1⟩:=stepG_iff.1 h1
 obtain ⟨by_,h2⟩:=stepG_iff.1 h2
 obtain ⟨σ1',a1,a2⟩:=swap (zia g n d f ops x bx) (zia g n d f ops y by_) (fun t ht=>zgr c1 ht) (fun t ht=>zgr c2 ht) (fun t ht=>zgr c3 ht) (clsB_ok c4 bx by_)
  (fun hx hy hk=>by
   have e1:=stepB_a hx h1
   have e2:=stepB_a hy h2
   cases hdx:x.dst with
   | none=>rw [hdx] at e1;cases e1
   | some t =>
    cases hdy:y.dst with
    | none=>rw [hdy] at e2;cases e2
    | some u =>
     rw [hdx,hdy] at hk
     simp at hk
     subst hk
     exact zgr c2 (t:=t) (by rw [zhn,hdx];simp) (by rw [zhn,hdy];simp)) h1 h2
 exact ⟨σ1',stepG_iff.2 ⟨by_,a1⟩,stepG_iff.2 ⟨bx,a2⟩⟩

def irun (S:Oper→St→Option St) (ops:Array Oper):List Nat→St→Option St
 | [],σ=>some σ
 | i :: r,σ=>(ops[i]?).bind fun o=>(stepG S ops o σ).bind (irun S ops r)

theorem zqi (S:Oper→St→Option St) (ops:Array Oper):∀ (k i:Nat),i+k=ops.size→∀ σ,irun S ops (List.range' i k) σ=arun S ops (ops.toList.drop i) σ
 | 0,i,hi,σ=>by
  rw [List.drop_eq_nil_of_le (by rw [Array.length_toList];omega)]
  rfl
 | k+1,i,hi,σ=>by
  have hlt:i < ops.toList.length:=by rw [Array.length_toList];omega
  rw [List.drop_eq_getElem_cons hlt,List.range'_succ]
  have ho:ops[i]?=some ops.toList[i]:=by rw [← Array.getElem?_toList];exact List.getElem?_eq_getElem hlt
  simp only [irun,ho,arun,Option.bind_some]
  congr 1
  funext σ'
  exact zqi S ops k (i+1) (by omega) σ'

def commI (g:Cfg) (f:Nat) (ops:Array Oper) (j i:Nat):Prop:=∀ x y,ops[j]?=some x→ops[i]?=some y→comm g f ops x y=true

theorem zqj {g:Cfg} {n d f:Nat} {ops:Array Oper} {i:Nat} {post:List Nat}:∀ (pre:List Nat) (σ σ':St),(∀ j∈pre,commI g f ops j i) →
 irun (stepX (callN g n d) g d f) ops (pre ++ i :: post) σ=some σ'→irun (stepX (callN g n d) g d f) ops (i :: (pre ++ post)) σ=some σ'
 | [],σ,σ',_,h=>h
 | j :: pre,σ,σ',hc,h=>by
  simp only [List.cons_append,irun,Option.bind_eq_some_iff] at h
  obtain ⟨x,hx,σ1,h1,h2⟩:=h
  have ih:=zqj pre σ1 σ' (fun k hk=>hc k (List.mem_cons_of_mem _ hk)) h2
  simp only [irun,Option.bind_eq_some_iff] at ih
  obtain ⟨y,hy,σ2,h3,h4⟩:=ih
  obtain ⟨σ1',a1,a2⟩:=stepG_swap (hc j (List.mem_cons_self ..) x y hx hy) h1 h3
  simp only [List.cons_append,irun,Option.bind_eq_some_iff]
  exact ⟨y,hy,σ1',a1,x,hx,σ2,a2,h4⟩

theorem bef_pred {ops:Array Oper} {rem:List Nat} (hcl:∀ j∈rem,∀ (i:Nat) y,ops[i]?=some y→(∃ e∈y.after,e.on=j∧Region.binds .any e=true)→i∈rem) :
 ∀ (n j i:Nat),j∈rem→bef ops n j i=true→∃ y,ops[i]?=some y∧∃ e∈y.after,Region.binds .any e=true∧e.on∈rem
 | 0,j,i,_,h=>by cases h
 | n+1,j,i,hj,h=>by
  rw [bef] at h
  split at h
  ·rename_i y hy
   refine ⟨y,hy,?_⟩
   rw [Array.any_eq_true] at h
   obtain ⟨q,hq,h⟩:=h
   rw [Bool.and_eq_true,Bool.or_eq_true] at h
   obtain ⟨hb,h⟩:=h
   refine ⟨_,Array.getElem_mem hq,hb,?_⟩
   rcases h with h | h
   ·rw [beq_iff_eq] at h
    rw [h]
    exact hj
   ·obtain ⟨y2,hy2,e2,he2,hb2,hr2⟩:=bef_pred hcl n j _ hj h
    exact hcl e2.on hr2 _ y2 hy2 ⟨e2,he2,rfl,hb2⟩
  ·cases h

theorem wpAny_run {P:Program} {g:Cfg} {n d f N:Nat} {ops:Array Oper} {Q:Exit→Act→World→Prop} (hS:∀ o∈ops.toList,∀ σ σ',stepX (callN g n d) g d f o σ=some σ'→StepOK P d N o σ σ')
 (hd:∀ o∈ops.toList,o.dst.all (· < N)=true) (hok:regionOK g f ops=true):∀ (fuel:Nat) (rem:List Nat) (listed:Array Bool) (G:Gh) (w:World) (a:Act) (σ σ':St),rem.length≤fuel→listed.size=ops.size→rem.Pairwise (· < ·) →
 (∀ i,i∈rem ↔ i < ops.size∧listed.getD i true=false)→(∀ j∈rem,∀ (i:Nat) y,ops[i]?=some y→(∃ e∈y.after,e.on=j∧Region.binds .any e=true)→i∈rem)→Sim d N G σ a.tmps w→irun (stepX (callN g n d) g d f) ops rem σ=some σ' →
 (∀ G' a' w',Sim d N G' σ' a'.tmps w'→Frm d G w G' w'→a'.defers=a.defers→Q .normal a' w')→wpAny P .any ops Q fuel listed a w:=by
 have hreg:∀ i y,ops[i]?=some y→(∀ e∈y.after,Region.binds .any e=true→e.on < i)∧∀ j x,j < i→ops[j]?=some x→(∃ e∈y.after,e.on=j∧Region.binds .any e=true)∨comm g f ops x y=true∨bef ops ops.size j i=true:=by
  intro i y hy
  have hi:i < ops.size:=(Array.getElem?_eq_some_iff.1 hy).1
  unfold regionOK at hok
  rw [List.all_eq_true] at hok
  have:=hok i (List.mem_range.2 hi)
  rw [hy] at this
  simp only [Bool.and_eq_true] at this
  obtain ⟨t1,t2⟩:=this
  refine ⟨fun e he hb=>?_,fun j x hj hx=>?_⟩
  ·rw [Array.all_eq_true_iff_forall_mem] at t1
   have:=t1 e he
   rw [hb] at this
   simpa using this
  ·rw [List.all_eq_true] at t2
   have:=t2 j (List.mem_range.2 hj)
   rw [hx] at this
   simp only [Bool.or_eq_true] at this
   rcases this with h | h
   ·left
    rw [Array.any_eq_true] at h
    obtain ⟨q,hq,h⟩:=h
    simp only [Bool.and_eq_true,beq_iff_eq] at h
    exact ⟨_,Array.getElem_mem hq,h.1,h.2⟩
   ·exact .inr h
 intro fuel
 induction fuel with
 | zero =>
  intro rem listed G w a σ σ' hlen hsz hp hl hcl hs hr hQ
  have:rem=[]:=List.length_eq_zero_iff.1 (by omega)
  subst this
  simp only [irun,Option.some.injEq] at hr
  subst hr
  refine ⟨?_,hQ G a w hs (Frm.refl _ _ _) rfl⟩
  unfold Region.ready
  rw [List.filter_eq_nil_iff]
  intro i hi hh
  simp only [Bool.and_eq_true,Bool.not_eq_true'] at hh
  have:=(hl i).2 ⟨List.mem_range.1 hi,hh.1⟩
  cases this
 | succ fuel ih =>
  intro rem listed G w a σ σ' hlen hsz hp hl hcl hs hr hQ
  refine ⟨fun hnil=>?_,fun i hi=>?_⟩
  ·cases rem with
   | nil =>
    simp only [irun,Option.some.injEq] at hr
    subst hr
    exact hQ G a w hs (Frm.refl _ _ _) rfl
   | cons i rem =>
    exfalso
    have hi:=(hl i).1 (List.mem_cons_self ..)
    have hready:i∈Region.ready .any ops listed:=by
     unfold Region.ready
     rw [List.mem_filter]
     refine ⟨List.mem_range.2 hi.1,?_⟩
     have hy:ops[i]?=some ops[i]:=Array.getElem?_eq_getElem hi.1
     rw [hy,hi.2]
     simp only [Option.map_some,Option.getD_some,Bool.not_false,Bool.true_and]
     rw [Array.all_eq_true_iff_forall_mem]
     intro e he
     cases hb:Region.binds .any e with
     | false=>rfl
     | true =>
      have hlt:=(hreg i _ hy).1 e he hb
      simp only [Bool.not_true,Bool.false_or]
      cases hle:listed.getD e.on false with
      | true=>rfl
      | false =>
       have hlt2:e.on < ops.size:=by omega
       have:listed.getD e.on true=false:=by
        rw [Array.getD_eq_getD_getElem?] at hle ⊢
        rw [Array.getElem?_eq_getElem (by omega)] at hle ⊢
        exact hle
       have hmem:=(hl e.on).2 ⟨hlt2,this⟩
       rw [List.pairwise_cons] at hp
       cases hmem with
       | head=>omega
       | tail _ hm=>have:=hp.1 _ hm;omega
    rw [hnil] at hready
    cases hready
  ·unfold Region.ready at hi
   rw [List.mem_filter] at hi
   obtain ⟨hi1,hi2⟩:=hi
   have hi1:=List.mem_range.1 hi1
   simp only [Bool.and_eq_true,Bool.not_eq_true'] at hi2
   have hy:ops[i]?=some ops[i]:=Array.getElem?_eq_getElem hi1
   obtain ⟨hi2,hi3⟩:=hi2
   rw [hy] at hi3
   simp only [Option.map_some,Option.getD_some] at hi3
   rw [Array.all_eq_true_iff_forall_mem] at hi3
   have hmem:=(hl i).2 ⟨hi1,hi2⟩
   obtain ⟨pre,post,rfl⟩:=List.append_of_mem hmem
   have hno:∀ e∈(ops[i]).after,Region.binds .any e=true→e.on∈pre ++ i :: post→False:=fun e he hb hr2=>by
    have h3:=hi3 e he
    rw [hb] at h3
    simp only [Bool.not_true,Bool.false_or] at h3
    have:=(hl e.on).1 hr2
    rw [Array.getD_eq_getD_getElem?] at h3 this
    rw [Array.getElem?_eq_getElem (by omega)] at h3
    rw [Array.getElem?_eq_getElem (by omega)] at this
    simp only [Option.getD_some] at h3 this
    rw [this.2] at h3
    cases h3
   have hfront:=zqj pre σ σ' (fun j hj=>by
    intro x y hx hy'
    rw [hy] at hy'
    cases hy'
    have hji:j < i:=by
     rw [List.pairwise_append] at hp
     exact hp.2.2 j hj i (List.mem_cons_self ..)
    rcases (hreg i _ hy).2 j x hji hx with ⟨e,he,rfl,hb⟩ | h | h
    ·exact (hno e he hb (List.mem_append_left _ hj)).elim
    ·exact h
    ·obtain ⟨y2,hy2,e,he,hb,hr2⟩:=bef_pred hcl _ j i (List.mem_append_left _ hj) h
     rw [hy] at hy2
     cases hy2
     exact (hno e he hb hr2).elim) hr
   have hcl':∀ j∈pre ++ post,∀ (k:Nat) y,ops[k]?=some y→(∃ e∈y.after,e.on=j∧Region.binds .any e=true)→k∈pre ++ post:=by
    intro j hj k y hk hex
    have hjr:j∈pre ++ i :: post:=by
     rw [List.mem_append] at hj ⊢
     rcases hj with h | h
     ·exact .inl h
     ·exact .inr (List.mem_cons_of_mem _ h)
    have hkr:=hcl j hjr k y hk hex
    rw [List.mem_append,List.mem_cons] at hkr
    rw [List.mem_append]
    rcases hkr with h | h | h
    ·exact .inl h
    ·subst h
     rw [hy] at hk
     cases hk
     obtain ⟨e,he,rfl,hb⟩:=hex
     exact (hno e he hb hjr).elim
    ·exact .inr h
   simp only [irun,hy,Option.bind_some,Option.bind_eq_some_iff] at hfront
   obtain ⟨σ1,h1,h2⟩:=hfront
   unfold stepG at h1
   rw [Option.bind_eq_some_iff] at h1
   obtain ⟨want,hw,h1⟩:=h1
   have hnd:(pre ++ i :: post).Nodup:=hp.imp fun h=>Nat.ne_of_lt h
   have hl':∀ j,j∈pre ++ post ↔ j < ops.size∧(listed.setIfInBounds i true).getD j true=false:=by
    intro j
    have hq:(listed.setIfInBounds i true).getD j true=if j=i then true else listed.getD j true:=by
     simp only [Array.getD_eq_getD_getElem?,Array.getElem?_setIfInBounds]
     by_cases h:j=i
     ·subst h;simp [hsz,hi1]
     ·have h':¬ i=j:=fun e=>h e.symm
      simp [h,h']
    rw [hq]
    have hni:i ∉ pre ++ post:=by
     rw [List.nodup_append] at hnd
     intro hm
     rw [List.mem_append] at hm
     rcases hm with hm | hm
     ·exact hnd.2.2 i hm i (List.mem_cons_self ..) rfl
     ·exact (List.nodup_cons.1 hnd.2.1).1 hm
    by_cases h:j=i
    ·subst h;simp [hni]
    ·rw [if_neg h,← hl j];simp [h]
   have hlen':(pre ++ post).length≤fuel:=by simp only [List.length_append,List.length_cons] at hlen ⊢; omega
   have hp':(pre ++ post).Pairwise (· < ·):=by
    rw [List.pairwise_append] at hp ⊢
    exact ⟨hp.1,(List.pairwise_cons.1 hp.2.1).2,fun a ha b hb=>hp.2.2 a ha b (List.mem_cons_of_mem _ hb)⟩
   have hsz':(listed.setIfInBounds i true).size=ops.size:=by rw [Array.size_setIfInBounds];exact hsz
   unfold wpOp
   rw [hy]
   simp only
   rw [wants_ok hs hw]
   have hmemo:ops[i]∈ops.toList:=by simp
   cases want with
   | true =>
    simp only [if_true] at h1 ⊢
    left
    refine hS _ hmemo σ σ1 h1 G w a _ _ hs fun G' a' w' hs' hF' hdf=>?_
    exact ih _ _ G' w' a' σ1 σ' hlen' hsz' hp' hl' hcl' hs' h2 fun G2 a2 w2 hs2 hF2 hdf2=>hQ G2 a2 w2 hs2 (hF'.trans hF2) (hdf2.trans hdf)
   | false =>
    simp only [Bool.false_eq_true,if_false,Option.some.injEq] at h1 ⊢
    subst h1
    have hs':=hs.put (hd _ hmemo) (v:=.skp) (r:=undef) fun _ _=>RA_skp
    refine ih _ _ G w _ _ σ' hlen' hsz' hp' hl' hcl' hs' h2 fun G2 a2 w2 hs2 hF2 hdf2=>hQ G2 a2 w2 hs2 hF2 (hdf2.trans ?_)
    cases ops[i].dst <;> rfl

end Go.Ev

