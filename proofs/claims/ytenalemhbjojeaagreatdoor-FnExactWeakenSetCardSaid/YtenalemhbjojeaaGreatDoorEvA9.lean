import Derived.Test.YtenalemhbjojeaaGreatDoorEvA8
import Derived.Test.YtenalemhbjojeaaGreatDoorEvA6
import Derived.Test.YtenalemhbjojeaaGreatDoorEvA7
set_option linter.unusedSimpArgs false
set_option linter.unusedVariables false
set_option linter.unnecessarySimpa false
noncomputable section
namespace Go.Ev
def thawA (d t:Nat):Nat→List D→List Gho
 | _,[]=>[]
 | i,c :: cs=>thawD d (.sl t i) [i] c ++ thawA d t (i+1) cs
def frzA (d t:Nat):Nat→List D→List Gho
 | _,[]=>[]
 | i,c :: cs=>frzD d (.sl t i) [i] c ++ frzA d t (i+1) cs
def cellsOf:AV→List C
 | .one c=>[c]
 | .ag cs=>cs
 | .tu _=>[]
theorem likeA_get {v:AV} {cs:List C} (h:cellsOf v=cs) {σ:St} {t i:Nat} (he:σ.env t=v):(Loc.env t i).get σ=cs[i]?:=by
 subst h
 subst he
 simp only [Loc.get]
 cases σ.env t with
 | one c=>cases i <;> simp [cellsOf]
 | ag cs=>rfl
 | tu l=>rfl
def sameF:AV→AV→Prop
 | .one _,.one _=>True
 | .ag a,.ag b=>a.length=b.length
 | _,_=>False
theorem set_slot {σ:St} {t i:Nat} {v:AV} {c:C} (he:σ.env t=v) (hv:∀ l,v≠.tu l) (hi:i < (cellsOf v).length):∃ v',Loc.set σ c (.env t i)={ σ with env:=upd σ.env t v' }∧cellsOf v'=(cellsOf v).set i c∧sameF v v':=by
 cases v with
 | one x =>
  refine ⟨.one c,by simp only [Loc.set,he],?_,trivial⟩
  have:i=0:=by simp only [cellsOf,List.length_singleton] at hi;omega
  subst this
  rfl
 | ag cs=>exact ⟨.ag (cs.set i c),by simp only [Loc.set,he],rfl,by simp [sameF]⟩
 | tu l=>exact absurd rfl (hv l)
theorem zgz {v v':AV} (h:sameF v v'):∀ l,v'≠.tu l:=by
 intro l e
 subst e
 cases v <;> exact h
theorem zeh {a b c:AV} (h1:sameF a b) (h2:sameF b c):sameF a c:=by
 cases a <;> cases b <;> cases c <;> simp_all [sameF]
theorem thaw_slot1 {d t i n:Nat} {σ:St} {pre rest:List C} {cs:List D} {v:AV} (hK:KB σ) (hi:pre.length=i) (hw:0 < szD n cs∧cs.length=n * szD n cs)
 (hv:∀ l,v≠.tu l) (he:σ.env t=v) (hm:cellsOf v=pre ++ .l .own n cs :: rest) (hf:σ.mem (d,pk [i])=none) :
 ∃ σ1 v',ghoB d σ (.thaw (.sl t i) (pk [i]) (szD n cs))=some σ1∧KB σ1∧σ1.env t=v'∧sameF v v'∧cellsOf v'=pre ++ .bs (d,pk [i]) n (szD n cs) :: rest∧(∀ t',t'≠t→σ1.env t'=σ.env t') ∧
  σ1.mem (d,pk [i])=some (cs.map (C.ofD .own))∧∀ k,k≠(d,pk [i])→σ1.mem k=σ.mem k:=by
 obtain ⟨v',hs,hc,hsf⟩:=set_slot (c:=.bs (d,pk [i]) n (szD n cs)) (i:=i) he hv (by rw [hm];simp;omega)
 rw [hm,zmg hi] at hc
 refine ⟨{ env:=upd σ.env t v',mem:=upd σ.mem (d,pk [i]) (some (cs.map (C.ofD .own))) },v',?_,⟨fun t'=>?_,fun k c hk=>?_⟩,?_,hsf,hc,fun t' ht=>?_,?_,fun k hk=>?_⟩
 ·simp only [ghoB,Plc.loc,Option.bind_some]
  rw [likeA_get hm he,zmm hi]
  simp only [Option.bind_some,Loc.own?,hf]
  rw [if_pos (by simp [hw.1,pk_deep];exact hw.2),hK.eq,hs]
  rfl
 ·show (upd σ.env t v' t').killB=upd σ.env t v' t'
  unfold upd
  split
  ·have hall:∀ x∈cellsOf v',x.killB=x:=by
    intro x hx
    rw [hc] at hx
    have hkv:=hK.env t
    rw [he] at hkv
    have hold:∀ x∈cellsOf v,x.killB=x:=by
     intro x hx
     cases v with
     | one c=>simp only [cellsOf,List.mem_singleton] at hx;subst hx;simpa [AV.killB] using hkv
     | ag cs =>
      have h1:cs.map C.killB=cs:=by simpa [AV.killB] using hkv
      obtain ⟨j,hj,rfl⟩:=List.mem_iff_getElem.1 hx
      have:=congrArg (fun l=>l[j]?) h1
      simp only [List.getElem?_map] at this
      have hj':j < cs.length:=hj
      rw [List.getElem?_eq_getElem hj'] at this
      simpa [cellsOf] using this
     | tu l=>simp [cellsOf] at hx
    rw [hm] at hold
    rcases List.mem_append.1 hx with hx | hx
    ·exact hold x (List.mem_append.2 (.inl hx))
    ·rcases List.mem_cons.1 hx with rfl | hx
     ·rfl
     ·exact hold x (List.mem_append.2 (.inr (List.mem_cons_of_mem _ hx)))
   cases v' with
   | one c=>simp only [AV.killB];rw [hall c (by simp [cellsOf])]
   | ag cs=>simp only [AV.killB];rw [map_id_of (by simpa [cellsOf] using hall)]
   | tu l=>exact absurd rfl (zgz hsf l)
  ·exact hK.env t'
 ·have hk':upd σ.mem (d,pk [i]) (some (cs.map (C.ofD .own))) k=some c:=hk
  unfold upd at hk'
  split at hk'
  ·cases hk'
   intro x hx
   obtain ⟨y,_,rfl⟩:=List.mem_map.1 hx
   exact ziy y
  ·exact hK.mem k c hk'
 ·show upd _ _ _ _=_
  unfold upd;rw [if_pos rfl]
 ·show upd _ _ _ _=_
  unfold upd;rw [if_neg ht]
 ·show upd _ _ _ _=_
  unfold upd;rw [if_pos rfl]
 ·show upd _ _ _ _=_
  unfold upd;rw [if_neg hk]
theorem zqq {d t:Nat}:∀ (cs:List D) (i:Nat) (σ:St) (pre:List C) (v:AV),KB σ→wfL cs→pre.length=i→(∀ l,v≠.tu l)→σ.env t=v→cellsOf v=pre ++ cs.map (C.ofD .own)→(∀ j q,i≤j→σ.mem (d,pk (j :: q))=none) →
 ∃ σ' v',ghoLB d (thawA d t i cs) σ=some σ'∧KB σ'∧σ'.env t=v'∧sameF v v'∧cellsOf v'=pre ++ bxL d [] i cs∧(∀ t',t'≠t→σ'.env t'=σ.env t')∧subL σ'.mem d [] i cs ∧
  ∀ k,(∀ j q,i≤j→k≠(d,pk (j :: q)))→σ'.mem k=σ.mem k
 | [],i,σ,pre,v,hK,_,_,hv,he,hm,_=>⟨σ,v,rfl,hK,he,by cases v <;> simp_all [sameF],hm,fun _ _=>rfl,by rw [subL];trivial,fun _ _=>rfl⟩
 | .sc x :: cs,i,σ,pre,v,hK,hw,hi,hv,he,hm,hf=>by
  rw [wfL] at hw
  obtain ⟨σ2,v2,h2,hK2,he2,hs2,hc2,ht2,hsub,ho⟩:=zqq cs (i+1) σ (pre ++ [.s x]) v hK hw.2 (by simp [hi]) hv he (by rw [hm];simp [C.ofD]) (fun j q hj=>hf j q (by omega))
  exact ⟨σ2,v2,by rw [thawA,thawD];exact h2,hK2,he2,hs2,by rw [hc2,bxL];simp [bxC],ht2,by rw [subL,subD];exact ⟨trivial,hsub⟩,fun k hk=>ho k fun j q hj=>hk j q (by omega)⟩
 | .sl n ds :: cs,i,σ,pre,v,hK,hw,hi,hv,he,hm,hf=>by
  rw [wfL,wfD] at hw
  obtain ⟨σ1,v1,h1,hK1,he1,hs1,hc1,ht1,hb1,ho1⟩:=thaw_slot1 (d:=d) hK hi hw.1.1 hv he (by rw [hm];rfl) (hf i [] (Nat.le_refl _))
  obtain ⟨σ2,h2,hK2,he2,hp2,hsub2,ho2⟩:=zng (d:=d) ds [i] 0 σ1 [] hK1 hw.1.2 rfl hb1 (fun j q _=>by rw [ho1 _ (zck (by simp))];exact hf i (j :: q) (Nat.le_refl _))
  obtain ⟨σ3,v3,h3,hK3,he3,hs3,hc3,ht3,hsub3,ho3⟩:=zqq cs (i+1) σ2 (pre ++ [.bs (d,pk [i]) n (szD n ds)]) v1 hK2 hw.2 (by simp [hi]) (zgz hs1) (by rw [he2];exact he1) (by rw [hc1];simp) (fun j q hj=>by
   rw [ho2 _ (zck (by simp;omega)) (fun j' q' _=>zck (by simp;omega)),ho1 _ (zck (by simp;omega))]
   exact hf j q (by omega))
  refine ⟨σ3,v3,?_,hK3,he3,zeh hs1 hs3,by rw [hc3,bxL];simp [bxC],fun t' ht=>by rw [ht3 t' ht,he2,ht1 t' ht],?_,fun k hk=>?_⟩
  ·rw [thawA,thawD,List.cons_append,ghoLB,h1,Option.bind_some,zdm,h2,Option.bind_some,h3]
  ·rw [subL,subD]
   refine ⟨⟨?_,zjm (fun j q _=>?_) hsub2⟩,hsub3⟩
   ·rw [List.nil_append,ho3 _ (fun j q hj=>zck (by simp;omega)),hp2];rfl
   ·exact ho3 _ (fun j' q' hj=>zck (by simp;omega))
  ·rw [ho3 k (fun j q hj=>hk j q (by omega)),ho2 k (by have:=hk i [] (Nat.le_refl _);simpa using this) (fun j q _=>by have:=hk i (j :: q) (Nat.le_refl _);simpa using this),ho1 k (hk i [] (Nat.le_refl _))]

theorem zjv (v:AV) (q:Key→Bool):cellsOf (v.kill q)=(cellsOf v).map (C.kill q):=by cases v <;> rfl
theorem zhr {v:AV} (hv:∀ l,v≠.tu l) (q:Key→Bool):sameF v (v.kill q):=by
 cases v with
 | one c=>trivial
 | ag cs=>simp [sameF,AV.kill]
 | tu l=>exact absurd rfl (hv l)
theorem frz_slot1 {d t i n:Nat} {σ:St} {pre rest:List C} {cs:List D} {v:AV} (hi:pre.length=i) (hw:0 < szD n cs∧cs.length=n * szD n cs) (hv:∀ l,v≠.tu l) (he:σ.env t=v)
 (hm:cellsOf v=pre ++ .bs (d,pk [i]) n (szD n cs) :: rest) (hc:σ.mem (d,pk [i])=some (cs.map (C.ofD .own))) :
 ∃ σ1 v',ghoB d σ (.frz (.sl t i))=some σ1∧σ1.env t=v'∧sameF v v'∧cellsOf v'=pre.map (C.kill (· == (d,pk [i]))) ++ .l .own n cs :: rest.map (C.kill (· == (d,pk [i]))) ∧
  (∀ t',t'≠t→σ1.env t'=(σ.env t').kill (· == (d,pk [i])))∧σ1.mem (d,pk [i])=none∧∀ k,k≠(d,pk [i])→σ1.mem k=(σ.mem k).map (List.map (C.kill (· == (d,pk [i])))):=by
 generalize hkey:((d,pk [i]):Key)=key at *
 have hkd:key.1=d:=by rw [← hkey]
 have hck:cellsOf (v.kill (· == key))=pre.map (C.kill (· == key)) ++ .dead :: rest.map (C.kill (· == key)):=by
  rw [zjv,hm,List.map_append,List.map_cons]
  simp [C.kill]
 have hek:(σ.killK key).env t=v.kill (· == key):=by
  show (σ.env t).kill _=_
  rw [he]
 have hvk:=zgz (zhr hv (· == key))
 obtain ⟨v',hs,hc',hsf⟩:=set_slot (c:=.l .own n cs) (i:=i) hek hvk (by rw [hck];simp;omega)
 rw [hck,zmg (by simpa using hi)] at hc'
 refine ⟨{ σ.killK key with env:=upd (σ.killK key).env t v' },v',?_,?_,zeh (zhr hv _) hsf,hc',fun t' ht=>?_,?_,fun k hk=>?_⟩
 ·have hlen:(cs.map (C.ofD .own)).length=n * szD n cs:=by rw [List.length_map];exact hw.2
  simp only [ghoB,Plc.loc,Option.bind_some]
  rw [likeA_get hm he,zmm hi]
  simp only [Option.bind_some,hc,List.take_of_length_le (Nat.le_of_eq hlen),zrl,zih]
  rw [if_pos ⟨hkd,hlen,hw.1,rfl⟩,hs]
 ·show upd _ _ _ _=_
  unfold upd;rw [if_pos rfl]
 ·show upd _ _ _ _=_
  unfold upd;rw [if_neg ht];rfl
 ·show memKill (· == key) σ.mem key=_
  unfold memKill;rw [if_pos (by simp)]
 ·show memKill (· == key) σ.mem k=_
  unfold memKill;rw [if_neg (by simpa using hk)]
theorem frzA_ok {d t:Nat}:∀ (cs:List D) (i:Nat) (σ:St) (pre:List C) (v:AV),wfL cs→pre.length=i→(∀ l,v≠.tu l)→σ.env t=v→cellsOf v=pre ++ bxL d [] i cs→subL σ.mem d [] i cs →
 ∃ (σ':St) (v':AV) (q:Key→Bool),ghoLB d (frzA d t i cs) σ=some σ'∧(∀ k,q k=true→∃ j r,i≤j∧k=(d,pk (j :: r)))∧σ'.env t=v'∧sameF v v'∧cellsOf v'=pre.map (C.kill q) ++ cs.map (C.ofD .own) ∧
  (∀ t',t'≠t→σ'.env t'=(σ.env t').kill q)∧(∀ k,q k=true→σ'.mem k=none)∧∀ k,q k=false→σ'.mem k=(σ.mem k).map (List.map (C.kill q))
 | [],i,σ,pre,v,_,_,hv,he,hm,_=>⟨σ,v,fun _=>false,rfl,fun k h=>absurd h (by simp),he,by cases v <;> simp_all [sameF],by rw [zaz];exact hm,fun t' _=>by rw [AV.kill_none],fun k h=>absurd h (by simp),fun k _=>by
  cases hk:σ.mem k with
  | none=>rfl
  | some cs=>rw [Option.map_some,zaz]⟩
 | .sc x :: cs,i,σ,pre,v,hw,hi,hv,he,hm,hs=>by
  rw [wfL] at hw
  rw [subL] at hs
  obtain ⟨σ2,v2,q,h2,hq,he2,hs2,hc2,ht2,hn2,ho2⟩:=frzA_ok (d:=d) cs (i+1) σ (pre ++ [.s x]) v hw.2 (by simp [hi]) hv he (by rw [hm,bxL];simp [bxC]) hs.2
  exact ⟨σ2,v2,q,by rw [frzA,frzD];exact h2,fun k hk=>by obtain ⟨j,r,hj,e⟩:=hq k hk;exact ⟨j,r,by omega,e⟩,he2,hs2,by rw [hc2];simp [C.kill,C.ofD],ht2,hn2,ho2⟩
 | .sl n ds :: cs,i,σ,pre,v,hw,hi,hv,he,hm,hs=>by
  rw [wfL,wfD] at hw
  rw [subL,subD,List.nil_append] at hs
  obtain ⟨σ1,q1,h1,hq1,he1,hp1,hn1,ho1⟩:=zrv (d:=d) ds [i] 0 σ [] hw.1.2 rfl (by rw [hs.1.1];rfl) hs.1.2
  have hq0:∀ j r,i+1≤j→q1 (d,pk (j :: r))=false:=fun j r hj=>by
   cases hq:q1 (d,pk (j :: r)) with
   | false=>rfl
   | true =>
    obtain ⟨j',r',_,e⟩:=hq1 _ hq
    have:=zle (Prod.mk.inj e).2
    simp at this
    omega
  have hqi:q1 (d,pk [i])=false:=by
   cases hq:q1 (d,pk [i]) with
   | false=>rfl
   | true =>
    obtain ⟨j',r',_,e⟩:=hq1 _ hq
    have:=zle (Prod.mk.inj e).2
    simp at this
  have hv1:=zhr hv q1
  have hm1:cellsOf (v.kill q1)=pre.map (C.kill q1) ++ .bs (d,pk [i]) n (szD n ds) :: bxL d [] (i+1) cs:=by
   rw [zjv,hm,bxL,List.map_append,List.map_cons,List.nil_append,zni hqi,zfp fun j hj=>hq0 j [] hj]
   rfl
  obtain ⟨σ2,v2,h2,he2,hs2,hc2,ht2,hn2,ho2⟩:=frz_slot1 (d:=d) (t:=t) (i:=i) (n:=n) (by simpa using hi) hw.1.1 (zgz hv1) (by rw [he1 t,he]) hm1 (by simpa using hp1)
  have hqk:∀ j r,i+1≤j→((d,pk (j :: r)) == ((d,pk [i]):Key))=false:=fun j r hj=>by
   rw [beq_eq_false_iff_ne]
   exact zck (by simp;omega)
  obtain ⟨σ3,v3,q3,h3,hq3,he3,hs3,hc3,ht3,hn3,ho3⟩:=frzA_ok (d:=d) cs (i+1) σ2 ((pre.map (C.kill q1)).map (C.kill (· == (d,pk [i]))) ++ [.l .own n ds]) v2 hw.2 (by simp [hi]) (zgz hs2) he2
   (by rw [hc2,zfp fun j hj=>by simpa using hqk j [] hj];simp)
   (zew (q:=(· == (d,pk [i]))) (fun j r hj=>hqk j r hj) (fun j r hj=>ho2 _ (zck (by simp;omega)))
    (zew (q:=q1) (fun j r hj=>hq0 j r hj) (fun j r hj=>ho1 _ (zck (by simp;omega)) (hq0 j r hj)) hs.2))
  refine ⟨σ3,v3,fun k=>(q1 k || k == (d,pk [i])) || q3 k,?_,fun k hk=>?_,he3,zeh hv1 (zeh hs2 hs3),?_,fun t' ht=>?_,fun k hk=>?_,fun k hk=>?_⟩
  ·rw [frzA,frzD,zdm,zdm,h1,Option.bind_some,ghoLB,h2]
   exact h3
  ·simp only [Bool.or_eq_true,beq_iff_eq] at hk
   rcases hk with (hk | hk) | hk
   ·obtain ⟨j,r,_,e⟩:=hq1 k hk;exact ⟨i,j :: r,Nat.le_refl _,by rw [e];rfl⟩
   ·exact ⟨i,[],Nat.le_refl _,hk⟩
   ·obtain ⟨j,r,hj,e⟩:=hq3 k hk;exact ⟨j,r,by omega,e⟩
  ·rw [hc3,List.map_append,zbm,zbm,List.map_cons,List.map_nil,List.append_assoc]
   simp only [Bool.or_assoc]
   rfl
  ·rw [ht3 t' ht,ht2 t' ht,he1,zed,zed]
   congr 1
   funext k
   rw [Bool.or_assoc]
  ·simp only [Bool.or_eq_true,beq_iff_eq] at hk
   cases hk3:q3 k with
   | true=>exact hn3 k hk3
   | false =>
    rw [ho3 k hk3]
    rcases hk.resolve_right (by simp [hk3]) with hk1 | hk1
    ·by_cases hki:k=(d,pk [i])
     ·rw [hki,hn2];rfl
     ·rw [ho2 k hki,hn1 k hk1];rfl
    ·rw [hk1,hn2];rfl
  ·simp only [Bool.or_eq_false_iff,beq_eq_false_iff_ne] at hk
   rw [ho3 k hk.2,ho2 k hk.1.2,ho1 k (by simpa using hk.1.2) hk.1.1]
   cases σ.mem k with
   | none=>rfl
   | some c=>simp only [Option.map_some,zbm]
end Go.Ev


namespace Go.Ev
mutual
theorem subD_uniq {m:Mem} {d:Nat}:∀ {c c':D} {p:List Nat},bxC d p c=bxC d p c'→subD m d p c→subD m d p c'→c=c'
 | .sc v,.sc v',p,h,_,_=>by simp only [bxC,C.s.injEq] at h;rw [h]
 | .sc v,.sl n cs,p,h,_,_=>by simp [bxC] at h
 | .sl n cs,.sc v,p,h,_,_=>by simp [bxC] at h
 | .sl n cs,.sl n' cs',p,h,h1,h2=>by
  rw [subD] at h1 h2
  simp only [bxC,C.bs.injEq] at h
  have he:bxL d p 0 cs=bxL d p 0 cs':=Option.some.inj (h1.1.symm.trans h2.1)
  rw [zky he h1.2 h2.2,h.2.1]
theorem zky {m:Mem} {d:Nat}:∀ {cs cs':List D} {p:List Nat} {i:Nat},bxL d p i cs=bxL d p i cs'→subL m d p i cs→subL m d p i cs'→cs=cs'
 | [],[],_,_,_,_,_=>rfl
 | [],_ :: _,_,_,h,_,_=>by simp [bxL] at h
 | _ :: _,[],_,_,h,_,_=>by simp [bxL] at h
 | c :: cs,c' :: cs',p,i,h,h1,h2=>by
  rw [bxL,bxL,List.cons.injEq] at h
  rw [subL] at h1 h2
  rw [subD_uniq h.1 h1.1 h2.1,zky h.2 h1.2 h2.2]
end
def thawSlot (d x:Nat):St→List Gho:=fun σ=>.calm :: (thawA d x 0 (((cellsOf (σ.env x)).mapM C.toD).getD []) ++ [.drop fun k=>decide (d < k.1)])
open Classical in
def frzSlot (d x:Nat):St→List Gho:=fun σ=>if h:∃ cs,wfL cs∧cellsOf (σ.env x)=bxL d [] 0 cs∧subL σ.mem d [] 0 cs then frzA d x 0 (Classical.choose h) ++ [.drop fun k=>k.1 == d && decide (bigK≤k.2)] else []
theorem zii (c:C):c.killB.killB=c.killB:=by
 cases c with
 | l m n cs=>cases m <;> rfl
 | _=>rfl
theorem akillB_killB (v:AV):v.killB.killB=v.killB:=by
 cases v with
 | one c=>simp only [AV.killB,zii]
 | ag cs=>simp only [AV.killB,List.map_map,Function.comp_def,zii]
 | tu l=>simp only [AV.killB,List.map_map,Function.comp_def,zii]
theorem KB_killB (σ:St):KB σ.killB:=⟨fun t=>akillB_killB _,fun k cs hk c hc=>by
 have hk':(σ.mem k).map (List.map C.killB)=some cs:=hk
 rw [Option.map_eq_some_iff] at hk'
 obtain ⟨cs0,_,rfl⟩:=hk'
 obtain ⟨y,_,rfl⟩:=List.mem_map.1 hc
 exact zii y⟩
def deepQ (d:Nat):Key→Bool:=fun k=>decide (d < k.1)
theorem zmx (p:Key→Bool) (m:Mem):memKill p (memKill p m)=memKill p m:=by
 funext k
 unfold memKill
 cases hp:p k with
 | true=>simp
 | false =>
  simp only [Bool.false_eq_true,if_false]
  cases m k with
  | none=>rfl
  | some cs=>simp only [Option.map_some,zbm,Bool.or_self]
theorem thawSlot_ok {d x:Nat} {σ:St} {cs:List D} {v:AV} (hx:σ.env x=v) (hv:∀ l,v≠.tu l) (hc:cellsOf v=cs.map (C.ofD .own)) (hw:wfL cs) (hN:∀ k:Key,bigK≤k.2→σ.mem k=none) :
 ∃ σ1 v1,ghoLB d (thawSlot d x σ) σ=some σ1∧σ1.env x=v1∧sameF v v1∧cellsOf v1=bxL d [] 0 cs∧(∀ t,t≠x→σ1.env t=((σ.env t).killB).kill (deepQ d))∧subL σ1.mem d [] 0 cs∧memKill (deepQ d) σ1.mem=σ1.mem ∧
  (∀ k,(∀ j q,k≠(d,pk (j :: q)))→σ1.mem k=memKill (deepQ d) (fun k=>(σ.mem k).map (List.map C.killB)) k):=by
 have hcells:((cellsOf (σ.env x)).mapM C.toD).getD []=cs:=by rw [hx,hc,zih];rfl
 have hvk:cellsOf v.killB=[] ++ cs.map (C.ofD .own):=by
  have:cellsOf v.killB=(cellsOf v).map C.killB:=by cases v <;> rfl
  rw [this,hc,List.map_map]
  exact List.map_congr_left fun y _=>ziy y
 have hvt:∀ l,v.killB≠.tu l:=by cases v <;> simp [AV.killB] at hv ⊢
 have hsf:sameF v v.killB:=by cases v <;> simp [sameF,AV.killB] at hv ⊢
 obtain ⟨σ1,v1,h1,_,he1,hs1,hc1,ht1,hsub,ho⟩:=zqq (d:=d) (t:=x) cs 0 σ.killB [] v.killB (KB_killB σ) hw rfl hvt (by show (σ.env x).killB=_;rw [hx]) hvk
  (fun j q _=>by
   show (σ.mem _).map _=none
   rw [hN _ (pk_ge _)]
   rfl)
 have hpq:(fun k:Key=>decide (d≤k.1) && decide (d < k.1))=deepQ d:=by
  funext k
  unfold deepQ
  by_cases h:d < k.1
  ·simp [h];omega
  ·simp [h]
 have hkd:∀ p:List Nat,deepQ d (d,pk p)=false:=fun p=>by simp [deepQ]
 refine ⟨{ env:=fun t=>(σ1.env t).kill (deepQ d),mem:=memKill (deepQ d) σ1.mem },v1.kill (deepQ d),?_,?_,zeh (zeh hsf hs1) (zhr (zgz hs1) _),?_,fun t ht=>?_,?_,zmx _ _,fun k hk=>?_⟩
 ·unfold thawSlot
  rw [hcells,ghoLB]
  show ghoLB d _ σ.killB=_
  rw [zdm,h1,Option.bind_some,ghoLB]
  show (ghoB d σ1 _).bind _=_
  simp only [ghoB,hpq]
  rfl
 ·show (σ1.env x).kill _=_
  rw [he1]
 ·rw [zjv,hc1]
  exact zfp fun j _=>hkd _
 ·show (σ1.env t).kill _=_
  rw [ht1 t ht]
  rfl
 ·exact zew (q:=deepQ d) (fun j r _=>hkd _) (fun j r _=>by
   show memKill (deepQ d) σ1.mem _=_
   unfold memKill
   rw [if_neg (by simp [hkd])]) hsub
 ·show memKill (deepQ d) σ1.mem k=_
  unfold memKill
  rw [ho k fun j q _=>hk j q]
  rfl
theorem frzSlot_ok {d x:Nat} {σ:St} {cs:List D} {v:AV} (hx:σ.env x=v) (hv:∀ l,v≠.tu l) (hc:cellsOf v=bxL d [] 0 cs) (hw:wfL cs) (hs:subL σ.mem d [] 0 cs) :
 ∃ (σ':St) (v':AV) (q:Key→Bool),ghoLB d (frzSlot d x σ) σ=some σ'∧(∀ k,q k=true→bigK≤k.2)∧σ'.env x=v'∧sameF v v'∧cellsOf v'=cs.map (C.ofD .own) ∧
  (∀ t',t'≠x→σ'.env t'=(σ.env t').kill q)∧(∀ k:Key,k.1=d→bigK≤k.2→σ'.mem k=none)∧(∀ k,q k=true→σ'.mem k=none)∧∀ k,q k=false→σ'.mem k=(σ.mem k).map (List.map (C.kill q)):=by
 have h:∃ cs,wfL cs∧cellsOf (σ.env x)=bxL d [] 0 cs∧subL σ.mem d [] 0 cs:=⟨cs,hw,by rw [hx];exact hc,hs⟩
 have hun:Classical.choose h=cs:=by
  have hsp:=(Classical.choose_spec h).2
  exact (zky ((congrArg cellsOf hx).symm.trans hsp.1 |>.symm.trans hc |>.symm) hs hsp.2).symm
 obtain ⟨σ',v',q,h1,hq,he,hsf,hc',ht,hn,ho⟩:=frzA_ok (d:=d) (t:=x) cs 0 σ [] v hw rfl hv hx hc hs
 have hqb:∀ k,q k=true→k.1=d∧bigK≤k.2:=fun k hk=>by
  obtain ⟨j,r,_,e⟩:=hq k hk
  rw [e]
  exact ⟨rfl,pk_ge _⟩
 let p:Key→Bool:=fun k=>k.1 == d && decide (bigK≤k.2)
 have hqp:(fun k=>q k || p k)=p:=by
  funext k
  cases hqk:q k with
  | false=>rfl
  | true =>
   obtain ⟨a,b⟩:=hqb k hqk
   simp [p,a,b]
 refine ⟨{ env:=fun t=>(σ'.env t).kill p,mem:=memKill p σ'.mem },v'.kill p,p,?_,fun k hk=>?_,?_,?_,?_,fun t' ht'=>?_,fun k hk1 hk2=>?_,fun k hk=>?_,fun k hk=>?_⟩
 ·unfold frzSlot
  rw [dif_pos h,hun,zdm,h1,Option.bind_some,ghoLB]
  have hpq:(fun k:Key=>decide (d≤k.1) && (k.1 == d && decide (bigK≤k.2)))=p:=by
   funext k
   simp only [p]
   by_cases h:k.1=d
   ·simp [h]
   ·simp [h]
  simp only [ghoB,hpq]
  rfl
 ·simp only [p,Bool.and_eq_true,decide_eq_true_eq] at hk
  exact hk.2
 ·show (σ'.env x).kill p=_
  rw [he]
 ·exact zeh hsf (zhr (zgz hsf) p)
 ·rw [zjv,hc']
  simp only [List.nil_append,List.map_nil]
  exact ofDs_kill ..
 ·show (σ'.env t').kill p=_
  rw [ht t' ht',zed,hqp]
 ·show memKill p σ'.mem k=none
  unfold memKill
  rw [if_pos (by simp [p,hk1,hk2])]
 ·show memKill p σ'.mem k=none
  unfold memKill
  rw [if_pos hk]
 ·show memKill p σ'.mem k=_
  unfold memKill
  rw [if_neg (by simp [hk])]
  have hqk:q k=false:=by
   cases hqk:q k with
   | false=>rfl
   | true =>
    obtain ⟨a,b⟩:=hqb k hqk
    simp [p,a,b] at hk
  rw [ho k hqk]
  cases σ.mem k with
  | none=>rfl
  | some c=>simp only [Option.map_some,zbm,hqp]

structure MemR (mem0 mem:Mem) (d:Nat) (p:List Nat) (i n:Nat):Prop where
 clo:∀ q:Key→Bool,(∀ key:Key,key.1=d→q key=false)→memKill q mem0=mem0→memKill q mem=mem
 far:∀ key,(∀ j r,i≤j→j < i+n→key≠(d,pk (p ++ j :: r)))→mem key=mem0 key
def MarkOK (g:Cfg) (fn:Nat) (agg:Bool) (cs cs':List D) (k k':Int):Prop :=
 (∀ d p i,bxL d p i cs'=bxL d p i cs)∧∀ d d' p i mem,d≤d'→Tight d' mem→subL mem d p i cs →
  ∃ mem',callo g d' fn [avC agg (bxL d p i cs),.one (.s (.int .i64 k))] mem=some (.one (.s (.int .i64 k')),mem')∧MemR mem mem' d p i cs.length∧subL mem' d p i cs'
theorem bxC_copy (d:Nat) (p:List Nat) (c:D):(bxC d p c).copy=bxC d p c:=by cases c <;> rfl
theorem zly (d:Nat) (p:List Nat):∀ (cs:List D) (i:Nat),(bxL d p i cs).map C.copy=bxL d p i cs
 | [],_=>rfl
 | c :: cs,i=>by rw [bxL,List.map_cons,bxC_copy,zly d p cs (i+1)]
theorem av_copyB {v:AV} {d:Nat} {p:List Nat} {i:Nat} {cs:List D} (hv:∀ l,v≠.tu l) (h:cellsOf v=bxL d p i cs):v.copy=v:=by
 cases v with
 | one c =>
  have:=zly d p cs i
  rw [← h] at this
  simp only [cellsOf,List.map_cons,List.map_nil,List.cons.injEq,and_true] at this
  simp only [AV.copy,this]
 | ag l =>
  have:=zly d p cs i
  rw [← h] at this
  simp only [cellsOf] at this
  simp only [AV.copy,this]
 | tu l=>exact absurd rfl (hv l)
theorem av_like {agg:Bool} {v:AV} {cs:List C} {ds:List C} (h0:sameF (avC agg ds) v) (hc:cellsOf v=cs):v=avC agg cs:=by
 subst hc
 cases agg with
 | true=>cases v <;> simp_all [sameF,cellsOf]
 | false =>
  cases v with
  | one c=>rfl
  | ag l =>
   exfalso
   match ds,h0 with
   | [],h0=>exact h0
   | [_],h0=>exact h0
   | _ :: _ :: _,h0=>exact h0
  | tu l =>
   exfalso
   match ds,h0 with
   | [],h0=>exact h0
   | [_],h0=>exact h0
   | _ :: _ :: _,h0=>exact h0
theorem zfo {g:Cfg} {d f:Nat} {T:Option Out→Prop} {K:List It} {σ:St} (x kk t2 t3 t4 fn:Nat) {ty1 ty2 ty3 ty4:TypeId} {p1 p2 p3 p4:String} {a1 a2 a3 a4:Array Edge} {az_:Array TypeId} {agg:Bool} {cs cs':List D} {k k':Int}
 (hM:MarkOK g fn agg cs cs' k k') (hx:σ.env x=avC agg (cs.map (C.ofD .own))) (ha:agg=false→cs.length=1) (hk:σ.env kk=.one (.s (.int .i64 k))) (hw:wfL cs) (hw':wfL cs') (hN:∀ key:Key,bigK≤key.2→σ.mem key=none)
 (hro:isRo g f (some t4)=false∧isGive g f (some t4)=false) (htk:g.tk f (some t2)=false) (htk3:g.tk f (some t3)=false) (hctx:lookN fn g.ctx=none) (hne:x≠kk∧x≠t2∧x≠t3∧x≠t4∧kk≠t2∧t2≠t3)
 (next:∀ (σ':St) (q:Key→Bool),(∀ key:Key,key.1≤d→key.2 < bigK→q key=false)→σ'.env x=avC agg (cs'.map (C.ofD .own))→σ'.env kk=.one (.s (.int .i64 k')) →
  (∀ t,t≠x→t≠kk→t≠t2→t≠t3→t≠t4→σ'.env t=((σ.env t).killB).kill q)→(∀ key:Key,d < key.1∨bigK≤key.2→σ'.mem key=none) →
  (∀ key:Key,key.1≤d→key.2 < bigK→σ'.mem key=(σ.mem key).map (List.map fun c=>(c.killB).kill q))→Goal T (runK g d f K (.norm σ'))) :
 Goal T (ghoMK g d f (thawSlot d x) [] #[{ dst:=some t2,op:=.move (.tmp x),type:=ty1,pos:=p1,after:=a1,guard:=none },{ dst:=some t3,op:=.move (.tmp kk),type:=ty2,pos:=p2,after:=a2,guard:=none },
  {dst:=some t4,op:=.call { callee:=.value (.func fn),args:=#[.tmp t2,.tmp t3],argTypes:=az_ },type:=ty3,pos:=p3,after:=a3,guard:=none },
  {dst:=some kk,op:=.assign (.tmp t4),type:=ty4,pos:=p4,after:=a4,guard:=none }] (.gho [.many (frzSlot d x)] :: K) σ):=by
 obtain ⟨n1,n2,n3,n4,n5,n6⟩:=hne
 have hlen:agg=false→∃ c,cs.map (C.ofD .own)=[c]:=fun h=>by
  have:=ha h
  match cs,this with
  | [c],_=>exact ⟨_,rfl⟩
 have hv:∀ l,avC agg (cs.map (C.ofD .own))≠.tu l:=by
  intro l
  cases agg with
  | true=>simp
  | false=>obtain ⟨c,hc⟩:=hlen rfl;rw [hc];simp
 have hcl:cellsOf (avC agg (cs.map (C.ofD .own)))=cs.map (C.ofD .own):=by
  cases agg with
  | true=>rfl
  | false=>obtain ⟨c,hc⟩:=hlen rfl;rw [hc];rfl
 obtain ⟨σ1,v1,h1,he1,hs1,hc1,ht1,hsub1,hdp1,ho1⟩:=thawSlot_ok (d:=d) hx hv hcl hw hN
 have hv1:=zgz hs1
 have hv1e:v1=avC agg (bxL d [] 0 cs):=av_like hs1 hc1
 have hcp:v1.copy=v1:=av_copyB hv1 hc1
 obtain ⟨hsh,hcall⟩:=hM
 obtain ⟨mem',hcl2,⟨_,hfr⟩,hsub2⟩:=hcall d d [] 0 σ1.mem (Nat.le_refl _) hdp1 hsub1
 have hkk1:σ1.env kk=.one (.s (.int .i64 k)):=by rw [ht1 kk (Ne.symm n1),hk];rfl
 unfold ghoMK
 rw [h1,Option.bind_some,zrs]
 simp only [zqb,wants,zqk,s_move _ _ _ _ _ _ _ _ _ _ htk,s_move _ _ _ _ _ _ _ _ _ _ htk3,putD,opnd,he1,hcp]
 have hkm:upd σ1.env t2 v1 kk=.one (.s (.int .i64 k)):=by unfold upd;rw [if_neg n5];exact hkk1
 rw [hkm]
 simp only [AV.copy,C.copy]
 have hcopy:∀ env:Nat→AV,env t2=v1→env t3=.one (.s (.int .i64 k))→(#[Operand.tmp t2,.tmp t3].toList.map fun y=>(opnd env y).copy)=[avC agg (bxL d [] 0 cs),.one (.s (.int .i64 k))]:=by
  intro env e2 e3
  show [(env t2).copy,(env t3).copy]=_
  rw [e2,e3,hcp,hv1e]
  rfl
 rw [s_callF (hro:=hro),hctx,zmo,hcopy _ (by simp [upd,n6]) (by simp [upd]),hcl2,zoj]
 simp only [zqb,wants,zqk,zqx,putD,opnd,kil,o_nil,r_ghoM]
 unfold ghoMR
 generalize henv:(upd (upd (upd (upd (upd σ1.env t2 v1) t3 (AV.one (C.s (Value.int IntKind.i64 k)))) t4 (AV.one (C.s (Value.int IntKind.i64 k')))) t4 AV.dead) kk (upd (upd (upd σ1.env t2 v1) t3 (AV.one (C.s (Value.int IntKind.i64 k)))) t4 (AV.one (C.s (Value.int IntKind.i64 k'))) t4))=env2
 have hex:env2 x=v1:=by
  rw [← henv]
  simp only [upd,n1,n2,n3,n4,if_false]
  exact he1
 have hek:env2 kk=.one (.s (.int .i64 k')):=by
  rw [← henv]
  simp only [upd,if_true]
 have het:∀ t,t≠x→t≠kk→t≠t2→t≠t3→t≠t4→env2 t=((σ.env t).killB).kill (deepQ d):=by
  intro t h0 h1 h2 h3 h4
  rw [← henv]
  simp only [upd,h1,h2,h3,h4,if_false]
  exact ht1 t h0
 obtain ⟨σ3,v3,q,h3,hq,he3,hs3,hc3,ht3,hw3,hn3,ho3⟩:=frzSlot_ok (d:=d) (x:=x) (σ:={ env:=env2,mem:=mem' }) (cs:=cs') hex hv1 (by rw [hc1,hsh]) hw' hsub2
 rw [h3,Option.bind_some,ghoL,Option.bind_some]
 have hfar:∀ key:Key,(∀ j r,key≠(d,pk (j :: r)))→mem' key=memKill (deepQ d) (fun k=>(σ.mem k).map (List.map C.killB)) key:=fun key hkey=>by
  rw [hfr key fun j r _ _=>by rw [List.nil_append];exact hkey j r,ho1 key hkey]
 have hds:∀ key:Key,key.1≤d→deepQ d key=false:=fun key hkey=>by simp [deepQ];omega
 have hqs:∀ key:Key,key.1≤d→key.2 < bigK→(deepQ d key || q key)=false:=fun key hkd hkey=>by
  rw [hds key hkd,Bool.false_or]
  cases hqk:q key with
  | false=>rfl
  | true=>have:=hq key hqk;omega
 have hmem':∀ key:Key,key.1≤d→key.2 < bigK→mem' key=(σ.mem key).map (List.map fun c=>(c.killB).kill (deepQ d)):=fun key hkd hkey=>by
  rw [hfar key fun j r e=>by
   have:=pk_ge (j :: r)
   rw [e] at hkey
   simp only at hkey
   omega]
  unfold memKill
  rw [if_neg (by simp [hds key hkd])]
  show ((σ.mem key).map (List.map C.killB)).map (List.map (C.kill (deepQ d)))=_
  cases σ.mem key with
  | none=>rfl
  | some c=>simp only [Option.map_some,List.map_map,Function.comp_def]
 refine next σ3 (fun key=>deepQ d key || q key) hqs (he3.trans (av_like (zeh hs1 hs3) hc3)) ?_ (fun t a1 a2 a3 a4 a5=>?_) (fun key hkey=>?_) (fun key hkd hkey=>?_)
 ·rw [ht3 kk (Ne.symm n1)]
  show (env2 kk).kill q=_
  rw [hek];rfl
 ·rw [ht3 t a1]
  show (env2 t).kill q=_
  rw [het t a1 a2 a3 a4 a5,zed]
 ·cases hqk:q key with
  | true=>exact hn3 key hqk
  | false =>
   rw [ho3 key hqk]
   show (mem' key).map _=none
   by_cases hdl:d < key.1
   ·rw [hfar key (fun j r e=>by rw [e] at hdl;simp only at hdl;omega)]
    unfold memKill
    rw [if_pos (by simp [deepQ,hdl])]
    rfl
   have hkey:=hkey.resolve_left hdl
   by_cases hd:key.1=d
   ·have:=hw3 key hd hkey
    rw [ho3 key hqk] at this
    exact this
   ·rw [hfar key (fun j r e=>hd (by rw [e]))]
    unfold memKill
    show (if deepQ d key=true then none else ((σ.mem key).map (List.map C.killB)).map (List.map (C.kill (deepQ d)))).map _=none
    rw [hN key hkey]
    split <;> rfl
 ·have h0:=hqs key hkd hkey
  simp only [Bool.or_eq_false_iff] at h0
  rw [ho3 key h0.2]
  show (mem' key).map _=_
  rw [hmem' key hkd hkey]
  cases σ.mem key with
  | none=>rfl
  | some c=>simp only [Option.map_some,List.map_map,Function.comp_def,zht]
end Go.Ev


namespace Go.Ev
def thawX (d b:Nat):Nat→List D→List Gho
 | _,[]=>[]
 | i,c :: cs=>thawD d (.mem (d,b) i) [i] c ++ thawX d b (i+1) cs
def frzX (d b:Nat):Nat→List D→List Gho
 | _,[]=>[]
 | i,c :: cs=>frzD d (.mem (d,b) i) [i] c ++ frzX d b (i+1) cs
theorem zhc {d b:Nat} (hb:b < bigK) (p:List Nat):((d,b):Key)≠(d,pk p):=fun e=>by
 have:=pk_ge p
 have:=(Prod.mk.inj e).2
 omega
theorem thaw_box1 {d b i n:Nat} (hb:b < bigK) {σ:St} {pre rest:List C} {cs:List D} (hK:KB σ) (hi:pre.length=i) (hw:0 < szD n cs∧cs.length=n * szD n cs)
 (hm:σ.mem (d,b)=some (pre ++ .l .own n cs :: rest)) (hf:σ.mem (d,pk [i])=none) :
 ∃ σ1,ghoB d σ (.thaw (.mem (d,b) i) (pk [i]) (szD n cs))=some σ1∧KB σ1∧σ1.env=σ.env∧σ1.mem (d,b)=some (pre ++ .bs (d,pk [i]) n (szD n cs) :: rest) ∧
  σ1.mem (d,pk [i])=some (cs.map (C.ofD .own))∧∀ k,k≠(d,b)→k≠(d,pk [i])→σ1.mem k=σ.mem k:=by
 have hne:=zhc (d:=d) hb [i]
 refine ⟨{ σ with mem:=upd (upd σ.mem (d,b) (some (pre ++ .bs (d,pk [i]) n (szD n cs) :: rest))) (d,pk [i]) (some (cs.map (C.ofD .own))) },?_,?_,rfl,?_,?_,?_⟩
 ·simp only [ghoB,Plc.loc,Option.bind_some,Loc.get,hm,zmm hi,Loc.own?,hf]
  rw [if_pos (by simp [hw.1,pk_deep];exact hw.2)]
  rw [hK.eq]
  simp only [Loc.set,hm,zmg hi,Md.elem]
 ·refine hK.put fun k c hk=>?_
  have hk':upd (upd σ.mem (d,b) (some (pre ++ .bs (d,pk [i]) n (szD n cs) :: rest))) (d,pk [i]) (some (cs.map (C.ofD .own))) k=some c:=hk
  unfold upd at hk'
  split at hk'
  ·cases hk'
   refine .inr fun x hx=>?_
   obtain ⟨y,_,rfl⟩:=List.mem_map.1 hx
   exact ziy y
  ·split at hk'
   ·cases hk'
    refine .inr fun x hx=>?_
    rcases List.mem_append.1 hx with hx | hx
    ·exact hK.mem _ _ hm x (List.mem_append.2 (.inl hx))
    ·rcases List.mem_cons.1 hx with rfl | hx
     ·rfl
     ·exact hK.mem _ _ hm x (List.mem_append.2 (.inr (List.mem_cons_of_mem _ hx)))
   ·exact .inl hk'
 ·show upd (upd _ _ _) _ _ _=_
  unfold upd
  rw [if_neg hne,if_pos rfl]
 ·show upd (upd _ _ _) _ _ _=_
  unfold upd
  rw [if_pos rfl]
 ·intro k h1 h2
  show upd (upd _ _ _) _ _ _=_
  unfold upd
  rw [if_neg h2,if_neg h1]
theorem zqp {d b:Nat} (hb:b < bigK):∀ (cs:List D) (i:Nat) (σ:St) (pre:List C),KB σ→wfL cs→pre.length=i→σ.mem (d,b)=some (pre ++ cs.map (C.ofD .own))→(∀ j q,i≤j→σ.mem (d,pk (j :: q))=none) →
 ∃ σ',ghoLB d (thawX d b i cs) σ=some σ'∧KB σ'∧σ'.env=σ.env∧σ'.mem (d,b)=some (pre ++ bxL d [] i cs)∧subL σ'.mem d [] i cs ∧
  ∀ k,k≠(d,b)→(∀ j q,i≤j→k≠(d,pk (j :: q)))→σ'.mem k=σ.mem k
 | [],i,σ,pre,hK,_,_,hm,_=>⟨σ,rfl,hK,rfl,hm,by rw [subL];trivial,fun _ _ _=>rfl⟩
 | .sc x :: cs,i,σ,pre,hK,hw,hi,hm,hf=>by
  rw [wfL] at hw
  obtain ⟨σ2,h2,hK2,he2,hc2,hsub,ho⟩:=zqp hb cs (i+1) σ (pre ++ [.s x]) hK hw.2 (by simp [hi]) (by rw [hm];simp [C.ofD]) (fun j q hj=>hf j q (by omega))
  exact ⟨σ2,by rw [thawX,thawD];exact h2,hK2,he2,by rw [hc2,bxL];simp [bxC],by rw [subL,subD];exact ⟨trivial,hsub⟩,fun k hk0 hk=>ho k hk0 fun j q hj=>hk j q (by omega)⟩
 | .sl n ds :: cs,i,σ,pre,hK,hw,hi,hm,hf=>by
  rw [wfL,wfD] at hw
  obtain ⟨σ1,h1,hK1,he1,hc1,hb1,ho1⟩:=thaw_box1 (d:=d) hb hK hi hw.1.1 hm (hf i [] (Nat.le_refl _))
  obtain ⟨σ2,h2,hK2,he2,hp2,hsub2,ho2⟩:=zng (d:=d) ds [i] 0 σ1 [] hK1 hw.1.2 rfl hb1 (fun j q _=>by rw [ho1 _ (zhc hb _).symm (zck (by simp))];exact hf i (j :: q) (Nat.le_refl _))
  obtain ⟨σ3,h3,hK3,he3,hc3,hsub3,ho3⟩:=zqp hb cs (i+1) σ2 (pre ++ [.bs (d,pk [i]) n (szD n ds)]) hK2 hw.2 (by simp [hi])
   (by rw [ho2 _ (zhc hb _) (fun _ _ _=>zhc hb _),hc1];simp) (fun j q hj=>by
   rw [ho2 _ (zck (by simp;omega)) (fun j' q' _=>zck (by simp;omega)),ho1 _ (zhc hb _).symm (zck (by simp;omega))]
   exact hf j q (by omega))
  refine ⟨σ3,?_,hK3,by rw [he3,he2,he1],by rw [hc3,bxL];simp [bxC],?_,fun k hk0 hk=>?_⟩
  ·rw [thawX,thawD,List.cons_append,ghoLB,h1,Option.bind_some,zdm,h2,Option.bind_some,h3]
  ·rw [subL,subD]
   refine ⟨⟨?_,zjm (fun j q _=>?_) hsub2⟩,hsub3⟩
   ·rw [List.nil_append,ho3 _ (zhc hb _).symm (fun j q hj=>zck (by simp;omega)),hp2];rfl
   ·exact ho3 _ (zhc hb _).symm (fun j' q' hj=>zck (by simp;omega))
  ·rw [ho3 k hk0 (fun j q hj=>hk j q (by omega)),ho2 k (by have:=hk i [] (Nat.le_refl _);simpa using this) (fun j q _=>by have:=hk i (j :: q) (Nat.le_refl _);simpa using this),ho1 k hk0 (hk i [] (Nat.le_refl _))]
theorem frz_box1 {d b i n:Nat} (hb:b < bigK) {σ:St} {pre rest:List C} {cs:List D} (hi:pre.length=i) (hw:0 < szD n cs∧cs.length=n * szD n cs)
 (hm:σ.mem (d,b)=some (pre ++ .bs (d,pk [i]) n (szD n cs) :: rest)) (hc:σ.mem (d,pk [i])=some (cs.map (C.ofD .own))) :
 ∃ σ1,ghoB d σ (.frz (.mem (d,b) i))=some σ1∧(∀ t,σ1.env t=(σ.env t).kill (· == (d,pk [i]))) ∧
  σ1.mem (d,b)=some (pre.map (C.kill (· == (d,pk [i]))) ++ .l .own n cs :: rest.map (C.kill (· == (d,pk [i]))))∧σ1.mem (d,pk [i])=none ∧
  ∀ k,k≠(d,b)→k≠(d,pk [i])→σ1.mem k=(σ.mem k).map (List.map (C.kill (· == (d,pk [i])))):=by
 have hne:=zhc (d:=d) hb [i]
 generalize hkey:((d,pk [i]):Key)=key at *
 have hkd:key.1=d:=by rw [← hkey]
 have hmk:(σ.killK key).mem (d,b)=some (pre.map (C.kill (· == key)) ++ .dead :: rest.map (C.kill (· == key))):=by
  show memKill (· == key) σ.mem (d,b)=_
  unfold memKill
  rw [if_neg (by simpa using hne),hm]
  simp [C.kill]
 refine ⟨{ σ.killK key with mem:=upd (σ.killK key).mem (d,b) (some (pre.map (C.kill (· == key)) ++ .l .own n cs :: rest.map (C.kill (· == key)))) },?_,fun t=>rfl,?_,?_,?_⟩
 ·have hlen:(cs.map (C.ofD .own)).length=n * szD n cs:=by rw [List.length_map];exact hw.2
  simp only [ghoB,Plc.loc,Option.bind_some,Loc.get,hm,zmm hi,hc,List.take_of_length_le (Nat.le_of_eq hlen),zrl,zih]
  rw [if_pos ⟨hkd,hlen,hw.1,by simpa [Loc.notK] using hne⟩]
  simp only [Loc.set,hmk]
  rw [zmg (by simpa using hi)]
 ·show upd _ _ _ _=_
  unfold upd
  rw [if_pos rfl]
 ·show upd _ _ _ _=_
  unfold upd
  rw [if_neg (fun e=>hne e.symm)]
  show memKill (· == key) σ.mem key=_
  unfold memKill
  rw [if_pos (by simp)]
 ·intro k h1 h2
  show upd _ _ _ _=_
  unfold upd
  rw [if_neg h1]
  show memKill (· == key) σ.mem k=_
  unfold memKill
  rw [if_neg (by simpa using h2)]
theorem frzX_ok {d b:Nat} (hb:b < bigK):∀ (cs:List D) (i:Nat) (σ:St) (pre:List C),wfL cs→pre.length=i→σ.mem (d,b)=some (pre ++ bxL d [] i cs)→subL σ.mem d [] i cs →
 ∃ (σ':St) (q:Key→Bool),ghoLB d (frzX d b i cs) σ=some σ'∧(∀ k,q k=true→∃ j r,i≤j∧k=(d,pk (j :: r)))∧(∀ t,σ'.env t=(σ.env t).kill q) ∧
  σ'.mem (d,b)=some (pre.map (C.kill q) ++ cs.map (C.ofD .own))∧(∀ k,q k=true→σ'.mem k=none)∧∀ k,k≠(d,b)→q k=false→σ'.mem k=(σ.mem k).map (List.map (C.kill q))
 | [],i,σ,pre,_,hi,hm,_=>⟨σ,fun _=>false,rfl,fun k h=>absurd h (by simp),fun t=>by rw [AV.kill_none],by rw [zaz];exact hm,fun k h=>absurd h (by simp),fun k _ _=>by
  cases hk:σ.mem k with
  | none=>rfl
  | some cs=>rw [Option.map_some,zaz]⟩
 | .sc x :: cs,i,σ,pre,hw,hi,hm,hs=>by
  rw [wfL] at hw
  rw [subL] at hs
  obtain ⟨σ2,q,h2,hq,he2,hc2,hn2,ho2⟩:=frzX_ok (d:=d) hb cs (i+1) σ (pre ++ [.s x]) hw.2 (by simp [hi]) (by rw [hm,bxL];simp [bxC]) hs.2
  exact ⟨σ2,q,by rw [frzX,frzD];exact h2,fun k hk=>by obtain ⟨j,r,hj,e⟩:=hq k hk;exact ⟨j,r,by omega,e⟩,he2,by rw [hc2];simp [C.kill,C.ofD],hn2,ho2⟩
 | .sl n ds :: cs,i,σ,pre,hw,hi,hm,hs=>by
  rw [wfL,wfD] at hw
  rw [subL,subD,List.nil_append] at hs
  obtain ⟨σ1,q1,h1,hq1,he1,hp1,hn1,ho1⟩:=zrv (d:=d) ds [i] 0 σ [] hw.1.2 rfl (by rw [hs.1.1];rfl) hs.1.2
  have hq0:∀ j r,i+1≤j→q1 (d,pk (j :: r))=false:=fun j r hj=>by
   cases hq:q1 (d,pk (j :: r)) with
   | false=>rfl
   | true =>
    obtain ⟨j',r',_,e⟩:=hq1 _ hq
    have:=zle (Prod.mk.inj e).2
    simp at this
    omega
  have hqi:q1 (d,pk [i])=false:=by
   cases hq:q1 (d,pk [i]) with
   | false=>rfl
   | true =>
    obtain ⟨j',r',_,e⟩:=hq1 _ hq
    have:=zle (Prod.mk.inj e).2
    simp at this
  have hqb:q1 (d,b)=false:=by
   cases hq:q1 (d,b) with
   | false=>rfl
   | true=>obtain ⟨j',r',_,e⟩:=hq1 _ hq;exact absurd e (zhc hb _)
  have hm1:σ1.mem (d,b)=some (pre.map (C.kill q1) ++ .bs (d,pk [i]) n (szD n ds) :: bxL d [] (i+1) cs):=by
   rw [ho1 _ (zhc hb _) hqb,hm,bxL,Option.map_some,List.map_append,List.map_cons,List.nil_append,zni hqi,zfp fun j hj=>hq0 j [] hj]
   rfl
  obtain ⟨σ2,h2,he2,hc2,hn2,ho2⟩:=frz_box1 (d:=d) (b:=b) hb (i:=i) (n:=n) (by simpa using hi) hw.1.1 hm1 (by simpa using hp1)
  have hqk:∀ j r,i+1≤j→((d,pk (j :: r)) == ((d,pk [i]):Key))=false:=fun j r hj=>by
   rw [beq_eq_false_iff_ne]
   exact zck (by simp;omega)
  obtain ⟨σ3,q3,h3,hq3,he3,hc3,hn3,ho3⟩:=frzX_ok (d:=d) hb cs (i+1) σ2 ((pre.map (C.kill q1)).map (C.kill (· == (d,pk [i]))) ++ [.l .own n ds]) hw.2 (by simp [hi])
   (by rw [hc2,zfp fun j hj=>by simpa using hqk j [] hj];simp)
   (zew (q:=(· == (d,pk [i]))) (fun j r hj=>hqk j r hj) (fun j r hj=>ho2 _ (zhc hb _).symm (zck (by simp;omega)))
    (zew (q:=q1) (fun j r hj=>hq0 j r hj) (fun j r hj=>ho1 _ (zck (by simp;omega)) (hq0 j r hj)) hs.2))
  refine ⟨σ3,fun k=>(q1 k || k == (d,pk [i])) || q3 k,?_,fun k hk=>?_,fun t=>?_,?_,fun k hk=>?_,fun k hk0 hk=>?_⟩
  ·rw [frzX,frzD,zdm,zdm,h1,Option.bind_some,ghoLB,h2]
   exact h3
  ·simp only [Bool.or_eq_true,beq_iff_eq] at hk
   rcases hk with (hk | hk) | hk
   ·obtain ⟨j,r,_,e⟩:=hq1 k hk;exact ⟨i,j :: r,Nat.le_refl _,by rw [e];rfl⟩
   ·exact ⟨i,[],Nat.le_refl _,hk⟩
   ·obtain ⟨j,r,hj,e⟩:=hq3 k hk;exact ⟨j,r,by omega,e⟩
  ·rw [he3 t,he2 t,he1,zed,zed]
   congr 1
   funext k
   rw [Bool.or_assoc]
  ·rw [hc3,List.map_append,zbm,zbm,List.map_cons,List.map_nil,List.append_assoc]
   simp only [Bool.or_assoc]
   rfl
  ·simp only [Bool.or_eq_true,beq_iff_eq] at hk
   have hkb:k≠(d,b):=by
    rintro rfl
    rcases hk with (hk | hk) | hk
    ·rw [hqb] at hk;cases hk
    ·exact absurd hk (zhc hb _)
    ·obtain ⟨j,r,_,e⟩:=hq3 _ hk;exact absurd e (zhc hb _)
   cases hk3:q3 k with
   | true=>exact hn3 k hk3
   | false =>
    rw [ho3 k hkb hk3]
    rcases hk.resolve_right (by simp [hk3]) with hk1 | hk1
    ·by_cases hki:k=(d,pk [i])
     ·rw [hki,hn2];rfl
     ·rw [ho2 k hkb hki,hn1 k hk1];rfl
    ·rw [hk1,hn2];rfl
  ·simp only [Bool.or_eq_false_iff,beq_eq_false_iff_ne] at hk
   rw [ho3 k hk0 hk.2,ho2 k hk0 hk.1.2,ho1 k (by simpa using hk.1.2) hk.1.1]
   cases σ.mem k with
   | none=>rfl
   | some c=>simp only [Option.map_some,zbm]
def thawBox (d b:Nat):St→List Gho:=fun σ=>.calm :: (thawX d b 0 ((((σ.mem (d,b)).getD []).mapM C.toD).getD []) ++ [.drop fun k=>decide (d < k.1)])
open Classical in
def frzBox (d b:Nat):St→List Gho:=fun σ=>if h:∃ cs,wfL cs∧σ.mem (d,b)=some (bxL d [] 0 cs)∧subL σ.mem d [] 0 cs then frzX d b 0 (Classical.choose h) ++ [.drop fun k=>k.1 == d && decide (bigK≤k.2)] else []
theorem thawBox_ok {d b:Nat} (hb:b < bigK) {σ:St} {cs:List D} (hc:σ.mem (d,b)=some (cs.map (C.ofD .own))) (hw:wfL cs) (hN:∀ k:Key,bigK≤k.2→σ.mem k=none) :
 ∃ σ1,ghoLB d (thawBox d b σ) σ=some σ1∧σ1.mem (d,b)=some (bxL d [] 0 cs)∧(∀ t,σ1.env t=((σ.env t).killB).kill (deepQ d))∧subL σ1.mem d [] 0 cs∧memKill (deepQ d) σ1.mem=σ1.mem ∧
  (∀ k,k≠(d,b)→(∀ j q,k≠(d,pk (j :: q)))→σ1.mem k=memKill (deepQ d) (fun k=>(σ.mem k).map (List.map C.killB)) k):=by
 have hcells:(((σ.mem (d,b)).getD []).mapM C.toD).getD []=cs:=by rw [hc,Option.getD_some,zih];rfl
 have hkb:σ.killB.mem (d,b)=some ([] ++ cs.map (C.ofD .own)):=by
  show (σ.mem (d,b)).map _=_
  rw [hc,Option.map_some,List.map_map,List.nil_append]
  congr 1
  exact List.map_congr_left fun y _=>ziy y
 obtain ⟨σ1,h1,_,he1,hc1,hsub,ho⟩:=zqp (d:=d) hb cs 0 σ.killB [] (KB_killB σ) hw rfl hkb
  (fun j q _=>by
   show (σ.mem _).map _=none
   rw [hN _ (pk_ge _)]
   rfl)
 have hpq:(fun k:Key=>decide (d≤k.1) && decide (d < k.1))=deepQ d:=by
  funext k
  unfold deepQ
  by_cases h:d < k.1
  ·simp [h];omega
  ·simp [h]
 have hkd:∀ p:Nat,deepQ d (d,p)=false:=fun p=>by simp [deepQ]
 refine ⟨{ env:=fun t=>(σ1.env t).kill (deepQ d),mem:=memKill (deepQ d) σ1.mem },?_,?_,fun t=>?_,?_,zmx _ _,fun k hk0 hk=>?_⟩
 ·unfold thawBox
  rw [hcells,ghoLB]
  show ghoLB d _ σ.killB=_
  rw [zdm,h1,Option.bind_some,ghoLB]
  show (ghoB d σ1 _).bind _=_
  simp only [ghoB,hpq]
  rfl
 ·show memKill (deepQ d) σ1.mem (d,b)=_
  unfold memKill
  rw [if_neg (by simp [hkd]),hc1,Option.map_some,List.nil_append,zfp fun j _=>hkd _]
 ·show (σ1.env t).kill _=_
  rw [he1]
  rfl
 ·exact zew (q:=deepQ d) (fun j r _=>hkd _) (fun j r _=>by
   show memKill (deepQ d) σ1.mem _=_
   unfold memKill
   rw [if_neg (by simp [hkd])]) hsub
 ·show memKill (deepQ d) σ1.mem k=_
  unfold memKill
  rw [ho k hk0 fun j q _=>hk j q]
  rfl
theorem frzBox_ok {d b:Nat} (hb:b < bigK) {σ:St} {cs:List D} (hc:σ.mem (d,b)=some (bxL d [] 0 cs)) (hw:wfL cs) (hs:subL σ.mem d [] 0 cs) :
 ∃ (σ':St) (q:Key→Bool),ghoLB d (frzBox d b σ) σ=some σ'∧(∀ k,q k=true→bigK≤k.2)∧σ'.mem (d,b)=some (cs.map (C.ofD .own)) ∧
  (∀ t,σ'.env t=(σ.env t).kill q)∧(∀ k:Key,k.1=d→bigK≤k.2→σ'.mem k=none)∧(∀ k,q k=true→σ'.mem k=none)∧∀ k,k≠(d,b)→q k=false→σ'.mem k=(σ.mem k).map (List.map (C.kill q)):=by
 have h:∃ cs,wfL cs∧σ.mem (d,b)=some (bxL d [] 0 cs)∧subL σ.mem d [] 0 cs:=⟨cs,hw,hc,hs⟩
 have hun:Classical.choose h=cs:=by
  have hsp:=(Classical.choose_spec h).2
  exact (zky (Option.some.inj (hc.symm.trans hsp.1)) hs hsp.2).symm
 obtain ⟨σ',q,h1,hq,he,hc',hn,ho⟩:=frzX_ok (d:=d) hb cs 0 σ [] hw rfl hc hs
 have hqb:∀ k,q k=true→k.1=d∧bigK≤k.2:=fun k hk=>by
  obtain ⟨j,r,_,e⟩:=hq k hk
  rw [e]
  exact ⟨rfl,pk_ge _⟩
 let p:Key→Bool:=fun k=>k.1 == d && decide (bigK≤k.2)
 have hqp:(fun k=>q k || p k)=p:=by
  funext k
  cases hqk:q k with
  | false=>rfl
  | true =>
   obtain ⟨a,b⟩:=hqb k hqk
   simp [p,a,b]
 refine ⟨{ env:=fun t=>(σ'.env t).kill p,mem:=memKill p σ'.mem },p,?_,fun k hk=>?_,?_,fun t'=>?_,fun k hk1 hk2=>?_,fun k hk=>?_,fun k hk0 hk=>?_⟩
 ·unfold frzBox
  rw [dif_pos h,hun,zdm,h1,Option.bind_some,ghoLB]
  have hpq:(fun k:Key=>decide (d≤k.1) && (k.1 == d && decide (bigK≤k.2)))=p:=by
   funext k
   simp only [p]
   by_cases h:k.1=d
   ·simp [h]
   ·simp [h]
  simp only [ghoB,hpq]
  rfl
 ·simp only [p,Bool.and_eq_true,decide_eq_true_eq] at hk
  exact hk.2
 ·show memKill p σ'.mem (d,b)=_
  unfold memKill
  rw [if_neg (by simp [p];omega),hc',Option.map_some,List.map_nil,List.nil_append,ofDs_kill]
 ·show (σ'.env t').kill p=_
  rw [he t',zed,hqp]
 ·show memKill p σ'.mem k=none
  unfold memKill
  rw [if_pos (by simp [p,hk1,hk2])]
 ·show memKill p σ'.mem k=none
  unfold memKill
  rw [if_pos hk]
 ·show memKill p σ'.mem k=_
  unfold memKill
  rw [if_neg (by simp [hk])]
  have hqk:q k=false:=by
   cases hqk:q k with
   | false=>rfl
   | true =>
    obtain ⟨a,b⟩:=hqb k hqk
    simp [p,a,b] at hk
  rw [ho k hk0 hqk]
  cases σ.mem k with
  | none=>rfl
  | some c=>simp only [Option.map_some,zbm,hqp]
theorem goal_markB {g:Cfg} {d f:Nat} {T:Option Out→Prop} {K:List It} {σ:St} (b x kk t2 t3 t4 fn:Nat) {tt ty1 ty2 ty3 ty4:TypeId} {p1 p2 p3 p4:String} {a1 a2 a3 a4:Array Edge} {az_:Array TypeId} {i:TI} {cs cs':List D} {k k':Int}
 (hM:MarkOK g fn true cs cs' k k') (hti:ti g.P tt=some i) (hsz:i.size=cs.length) (hag:i.agg=true) (hb:b < bigK) (hx:σ.env x=.one (.ptr (d,b) 0)) (hc:σ.mem (d,b)=some (cs.map (C.ofD .own))) (hk:σ.env kk=.one (.s (.int .i64 k))) (hw:wfL cs) (hw':wfL cs') (hN:∀ key:Key,bigK≤key.2→σ.mem key=none)
 (hro:isRo g f (some t4)=false∧isGive g f (some t4)=false) (htk':g.tk f (some t2)=false∧∀ key,awayB g d f (some t2) key=false) (htk3:g.tk f (some t3)=false) (hctx:lookN fn g.ctx=none) (hne:x≠kk∧x≠t2∧x≠t3∧x≠t4∧kk≠t2∧t2≠t3)
 (next:∀ (σ':St) (q:Key→Bool),(∀ key:Key,key.1≤d→key.2 < bigK→q key=false)→σ'.mem (d,b)=some (cs'.map (C.ofD .own))→σ'.env kk=.one (.s (.int .i64 k')) →
  (∀ t,t≠kk→t≠t2→t≠t3→t≠t4→σ'.env t=((σ.env t).killB).kill q)→(∀ key:Key,d < key.1∨bigK≤key.2→σ'.mem key=none) →
  (∀ key:Key,key≠(d,b)→key.1≤d→key.2 < bigK→σ'.mem key=(σ.mem key).map (List.map fun c=>(c.killB).kill q))→Goal T (runK g d f K (.norm σ'))) :
 Goal T (ghoMK g d f (thawBox d b) [] #[{ dst:=some t2,op:=.load tt (.tmp x),type:=ty1,pos:=p1,after:=a1,guard:=none },{ dst:=some t3,op:=.move (.tmp kk),type:=ty2,pos:=p2,after:=a2,guard:=none },
  {dst:=some t4,op:=.call { callee:=.value (.func fn),args:=#[.tmp t2,.tmp t3],argTypes:=az_ },type:=ty3,pos:=p3,after:=a3,guard:=none },
  {dst:=some kk,op:=.assign (.tmp t4),type:=ty4,pos:=p4,after:=a4,guard:=none }] (.gho [.many (frzBox d b)] :: K) σ):=by
 obtain ⟨n1,n2,n3,n4,n5,n6⟩:=hne
 obtain ⟨htk,haw⟩:=htk'
 obtain ⟨σ1,h1,hc1,ht1,hsub1,hdp1,ho1⟩:=thawBox_ok (d:=d) hb hc hw hN
 obtain ⟨hsh,hcall⟩:=hM
 obtain ⟨mem',hcl2,⟨_,hfr⟩,hsub2⟩:=hcall d d [] 0 σ1.mem (Nat.le_refl _) hdp1 hsub1
 have hkk1:σ1.env kk=.one (.s (.int .i64 k)):=by rw [ht1 kk,hk];rfl
 have hx1:σ1.env x=.one (.ptr (d,b) 0):=by rw [ht1 x,hx];simp [AV.killB,C.killB,AV.kill,C.kill,deepQ]
 have hseg:seg (bxL d [] 0 cs) 0 i.size=some (bxL d [] 0 cs):=by
  unfold seg
  rw [hsz,if_pos (by rw [zdh];omega),List.drop_zero,List.take_of_length_le (by rw [zdh];omega)]
 have hdead:(bxL d [] 0 cs).all (fun c=>!c.isDead)=true:=by
  rw [List.all_eq_true]
  have:∀ (cs:List D) (i:Nat),∀ c∈bxL d [] i cs,(!c.isDead)=true:=by
   intro cs
   induction cs with
   | nil=>intro i c hc;simp [bxL] at hc
   | cons y cs ih =>
    intro i c hc
    rw [bxL] at hc
    rcases List.mem_cons.1 hc with rfl | hc
    ·cases y <;> rfl
    ·exact ih (i+1) c hc
  exact this cs 0
 have hld:opE g d f { dst:=some t2,op:=.load tt (.tmp x),type:=ty1,pos:=p1,after:=a1,guard:=none } σ1=some (.ag (bxL d [] 0 cs),σ1):=by
  simp only [opE,hti,opnd,hx1,hc1,hseg,htk,haw,hdead,hag,mkAV,bind,Option.bind_some,zly]
  rfl
 unfold ghoMK
 rw [h1,Option.bind_some,zrs]
 simp only [zqb,wants,zqk,s_load,hld,putK_some]
 simp only [zqb,wants,zqk,s_move _ _ _ _ _ _ _ _ _ _ htk3,putD,opnd]
 have hkm:upd σ1.env t2 (.ag (bxL d [] 0 cs)) kk=.one (.s (.int .i64 k)):=by unfold upd;rw [if_neg n5];exact hkk1
 rw [hkm]
 simp only [AV.copy,C.copy]
 have hcopy:∀ env:Nat→AV,env t2=.ag (bxL d [] 0 cs)→env t3=.one (.s (.int .i64 k))→(#[Operand.tmp t2,.tmp t3].toList.map fun y=>(opnd env y).copy)=[avC true (bxL d [] 0 cs),.one (.s (.int .i64 k))]:=by
  intro env e2 e3
  show [(env t2).copy,(env t3).copy]=_
  rw [e2,e3]
  show [AV.ag ((bxL d [] 0 cs).map C.copy),_]=_
  rw [zly]
  rfl
 rw [s_callF (hro:=hro),hctx,zmo,hcopy _ (by simp [upd,n6]) (by simp [upd]),hcl2,zoj]
 simp only [zqb,wants,zqk,zqx,putD,opnd,kil,o_nil,r_ghoM]
 unfold ghoMR
 generalize henv:(upd (upd (upd (upd (upd σ1.env t2 (AV.ag (bxL d [] 0 cs))) t3 (AV.one (C.s (Value.int IntKind.i64 k)))) t4 (AV.one (C.s (Value.int IntKind.i64 k')))) t4 AV.dead) kk (upd (upd (upd σ1.env t2 (AV.ag (bxL d [] 0 cs))) t3 (AV.one (C.s (Value.int IntKind.i64 k)))) t4 (AV.one (C.s (Value.int IntKind.i64 k'))) t4))=env2
 have hek:env2 kk=.one (.s (.int .i64 k')):=by
  rw [← henv]
  simp only [upd,if_true]
 have het:∀ t,t≠kk→t≠t2→t≠t3→t≠t4→env2 t=((σ.env t).killB).kill (deepQ d):=by
  intro t h1 h2 h3 h4
  rw [← henv]
  simp only [upd,h1,h2,h3,h4,if_false]
  exact ht1 t
 have hmb:mem' (d,b)=some (bxL d [] 0 cs'):=by
  rw [hfr _ fun j r _ _=>by rw [List.nil_append];exact zhc hb _,hc1,hsh]
 obtain ⟨σ3,q,h3,hq,hc3,ht3,hw3,hn3,ho3⟩:=frzBox_ok (d:=d) (b:=b) hb (σ:={ env:=env2,mem:=mem' }) (cs:=cs') hmb hw' hsub2
 rw [h3,Option.bind_some,ghoL,Option.bind_some]
 have hfar:∀ key:Key,key≠(d,b)→(∀ j r,key≠(d,pk (j :: r)))→mem' key=memKill (deepQ d) (fun k=>(σ.mem k).map (List.map C.killB)) key:=fun key hk0 hkey=>by
  rw [hfr key fun j r _ _=>by rw [List.nil_append];exact hkey j r,ho1 key hk0 hkey]
 have hds:∀ key:Key,key.1≤d→deepQ d key=false:=fun key hkey=>by simp [deepQ];omega
 have hqs:∀ key:Key,key.1≤d→key.2 < bigK→(deepQ d key || q key)=false:=fun key hkd hkey=>by
  rw [hds key hkd,Bool.false_or]
  cases hqk:q key with
  | false=>rfl
  | true=>have:=hq key hqk;omega
 have hmem':∀ key:Key,key≠(d,b)→key.1≤d→key.2 < bigK→mem' key=(σ.mem key).map (List.map fun c=>(c.killB).kill (deepQ d)):=fun key hk0 hkd hkey=>by
  rw [hfar key hk0 fun j r e=>by
   have:=pk_ge (j :: r)
   rw [e] at hkey
   simp only at hkey
   omega]
  unfold memKill
  rw [if_neg (by simp [hds key hkd])]
  show ((σ.mem key).map (List.map C.killB)).map (List.map (C.kill (deepQ d)))=_
  cases σ.mem key with
  | none=>rfl
  | some c=>simp only [Option.map_some,List.map_map,Function.comp_def]
 refine next σ3 (fun key=>deepQ d key || q key) hqs hc3 ?_ (fun t a2 a3 a4 a5=>?_) (fun key hkey=>?_) (fun key hk0 hkd hkey=>?_)
 ·rw [ht3 kk]
  show (env2 kk).kill q=_
  rw [hek];rfl
 ·rw [ht3 t]
  show (env2 t).kill q=_
  rw [het t a2 a3 a4 a5,zed]
 ·have hkb:key≠(d,b):=by rintro rfl;simp only at hkey;omega
  cases hqk:q key with
  | true=>exact hn3 key hqk
  | false =>
   rw [ho3 key hkb hqk]
   show (mem' key).map _=none
   by_cases hdl:d < key.1
   ·rw [hfar key hkb (fun j r e=>by rw [e] at hdl;simp only at hdl;omega)]
    unfold memKill
    rw [if_pos (by simp [deepQ,hdl])]
    rfl
   have hkey:=hkey.resolve_left hdl
   by_cases hd:key.1=d
   ·have:=hw3 key hd hkey
    rw [ho3 key hkb hqk] at this
    exact this
   ·rw [hfar key hkb (fun j r e=>hd (by rw [e]))]
    unfold memKill
    show (if deepQ d key=true then none else ((σ.mem key).map (List.map C.killB)).map (List.map (C.kill (deepQ d)))).map _=none
    rw [hN key hkey]
    split <;> rfl
 ·have h0:=hqs key hkd hkey
  simp only [Bool.or_eq_false_iff] at h0
  rw [ho3 key hk0 h0.2]
  show (mem' key).map _=_
  rw [hmem' key hk0 hkd hkey]
  cases σ.mem key with
  | none=>rfl
  | some c=>simp only [Option.map_some,List.map_map,Function.comp_def,zht]
end Go.Ev


namespace Go.Ev
open Enc (enc)
theorem zqs {α:Type} [Enc α] {xs:List α} (h:xs≠[]):szD xs.length (encL xs)=Enc.sz α:=by
 unfold szD
 have:0 < xs.length:=List.length_pos_iff.2 h
 rw [if_neg (by omega),zcj,Nat.mul_div_cancel_left _ this]
class WfE (α:Type) [Enc α]:Prop where
 wfE:∀ x:α,wfL (enc x)
instance:WfE Int:=⟨fun x=>by rw [enc_int];simp [wfL,wfD]⟩
instance:WfE Bool:=⟨fun x=>by rw [enc_bool];simp [wfL,wfD]⟩
instance:WfE ByteArray:=⟨fun x=>by rw [enc_str];simp [wfL,wfD]⟩
theorem wf_encL {α:Type} [Enc α] [WfE α]:∀ xs:List α,wfL (encL xs)
 | []=>by rw [encL_nil,wfL];trivial
 | x :: xs=>by rw [zax,znm];exact ⟨WfE.wfE x,wf_encL xs⟩
instance {α:Type} [Enc α] [WfE α]:WfE (List α):=⟨fun xs=>by
 rw [zil,wfL,wfL,wfD]
 refine ⟨⟨?_,wf_encL xs⟩,trivial⟩
 by_cases h:xs=[]
 ·subst h;simp [szD]
 ·rw [zqs h];exact ⟨Enc.pos,by rw [zcj]⟩⟩
def RowI (mem:Mem) (d:Nat) (r:List Nat) (cs:List D):Prop:=mem (d,pk r)=some (bxL d r 0 cs)∧subL mem d r 0 cs
structure MemU (mem0 mem:Mem) (d:Nat) (r:List Nat):Prop where
 clo:∀ q:Key→Bool,(∀ key:Key,key.1=d→q key=false)→memKill q mem0=mem0→memKill q mem=mem
 far:∀ key,(∀ s,key≠(d,pk (r ++ s)))→mem key=mem0 key
theorem MemU.refl (mem:Mem) (d:Nat) (r:List Nat):MemU mem mem d r:=⟨fun _ _ h=>h,fun _ _=>rfl⟩
theorem MemU.trans {m0 m1 m2:Mem} {d:Nat} {r:List Nat} (h1:MemU m0 m1 d r) (h2:MemU m1 m2 d r):MemU m0 m2 d r :=
 ⟨fun q hq h=>h2.clo q hq (h1.clo q hq h),fun key hk=>(h2.far key hk).trans (h1.far key hk)⟩
theorem MemU.tight {m0 m:Mem} {d D:Nat} {r:List Nat} (h:MemU m0 m d r) (hd:d≤D) (hT:Tight D m0):Tight D m :=
 h.clo _ (fun key hk=>by simp;omega) hT
theorem MemR.up {m0 m:Mem} {d:Nat} {r:List Nat} {i n:Nat} (h:MemR m0 m d r i n):MemU m0 m d r :=
 ⟨h.clo,fun key hk=>h.far key fun j s _ _=>hk (j :: s)⟩
theorem MemU.down {m0 m:Mem} {d:Nat} {p:List Nat} {i:Nat} (h:MemU m0 m d (p ++ [i])):MemR m0 m d p i 1 :=
 ⟨h.clo,fun key hk=>h.far key fun s=>by have:=hk i s (Nat.le_refl _) (by omega);simpa using this⟩
theorem seg_mid {α:Type} {A e B:List α} {off m:Nat} (h:off+m≤e.length):seg (A ++ (e ++ B)) (A.length+off) m=seg e off m:=by
 unfold seg
 rw [if_pos (by simp;omega),if_pos h]
 congr 1
 rw [← List.drop_drop,List.drop_left,List.drop_append_of_le_length (by omega),List.take_append_of_le_length (by simp;omega)]
theorem splice_mid {α:Type} {A B:List α} {x y:α}:splice (A ++ (x :: B)) A.length [y]=A ++ (y :: B):=by
 unfold splice
 rw [List.take_left,List.length_singleton,← List.drop_drop,List.drop_left]
 simp
theorem zjq {g:Cfg} {fn:Nat} {agg:Bool} {F F':List D} {k k':Int} (hM:MarkOK g fn agg F F' k k') {mem:Mem} {d e:Nat} {r:List Nat} {cs pre post:List D} (hcs:cs=pre ++ (F ++ post)) (hd:d≤e) (hT:Tight e mem) (hR:RowI mem d r cs) :
 ∃ mem',callo g e fn [avC agg (bxL d r pre.length F),.one (.s (.int .i64 k))] mem=some (.one (.s (.int .i64 k')),mem')∧RowI mem' d r (pre ++ (F' ++ post))∧MemU mem mem' d r:=by
 subst hcs
 obtain ⟨h1,h2⟩:=hR
 rw [zfx,zfx] at h2
 obtain ⟨s1,s2,s3⟩:=h2
 rw [Nat.zero_add] at s2 s3
 obtain ⟨mem',hc,hr,hs⟩:=hM.2 d e r pre.length mem hd hT s2
 have hlen:F'.length=F.length:=by
  have:=congrArg List.length (hM.1 d r 0)
  rwa [zdh,zdh] at this
 refine ⟨mem',hc,⟨?_,?_⟩,hr.up⟩
 ·rw [hr.far _ fun j s _ _=>zck zkd,h1,zjj,zjj,zjj,zjj,hM.1,hlen]
 ·rw [zfx,zfx,Nat.zero_add,hlen]
  exact ⟨zff (fun j q _ hj=>hr.far _ fun j' s hj1 hj2=>zck (zkq (by omega))) s1,hs,zff (fun j q hj _=>hr.far _ fun j' s hj1 hj2=>zck (zkq (by omega))) s3⟩
theorem zoh {mem:Mem} {d:Nat} {r:List Nat} {cs pre post:List D} {v v':Value} (hcs:cs=pre ++ (.sc v :: post)) (hR:RowI mem d r cs) :
 splice (bxL d r 0 cs) pre.length [.s v']=bxL d r 0 (pre ++ (.sc v' :: post))∧RowI (upd mem (d,pk r) (some (bxL d r 0 (pre ++ (.sc v' :: post))))) d r (pre ++ (.sc v' :: post))∧MemU mem (upd mem (d,pk r) (some (bxL d r 0 (pre ++ (.sc v' :: post))))) d r:=by
 subst hcs
 obtain ⟨h1,h2⟩:=hR
 refine ⟨?_,⟨by rw [zfs,if_pos rfl],?_⟩,⟨fun q hq h=>?_,fun key hk=>?_⟩⟩
 ·rw [zjj,zjj,bxL,bxL]
  have:=@splice_mid C (bxL d r 0 pre) (bxL d r (0+pre.length+1) post) (bxC d (r ++ [0+pre.length]) (.sc v)) (.s v')
  rw [zdh] at this
  exact this
 ·refine zjm (m:=mem) (fun j q _=>by rw [zfs,if_neg (zck fun e=>zkd e.symm)]) ?_
  rw [zfx,subL,subD] at h2 ⊢
  exact h2
 ·funext key
  unfold memKill
  by_cases hkey:key=(d,pk r)
  ·subst hkey
   rw [zfs,if_pos rfl,hq _ rfl]
   simp only [Bool.false_eq_true,if_false,Option.map_some]
   rw [zfp fun j _=>hq _ rfl]
  ·have:=congrFun h key
   unfold memKill at this
   rw [zfs,if_neg hkey]
   exact this
 ·rw [zfs,if_neg (by have:=hk [];simpa using this)]

def mkRow {α:Type} (F:α→Int→α × Int):List α→Int→List α × Int
 | [],k=>([],k)
 | x :: xs,k=>((F x k).1 :: (mkRow F xs (F x k).2).1,(mkRow F xs (F x k).2).2)
theorem zmj {α:Type} (F:α→Int→α × Int):∀ (xs:List α) (x:α) (k:Int),mkRow F (xs ++ [x]) k=((mkRow F xs k).1 ++ [(F x (mkRow F xs k).2).1],(F x (mkRow F xs k).2).2)
 | [],_,_=>rfl
 | y :: xs,x,k=>by rw [List.cons_append,mkRow,zmj F xs x,mkRow];rfl
theorem zja {α:Type} (F:α→Int→α × Int):∀ (xs:List α) (k:Int),(mkRow F xs k).1.length=xs.length
 | [],_=>rfl
 | x :: xs,k=>by rw [mkRow,List.length_cons,zja F xs,List.length_cons]
def FnEndM (P:Program) (d:Nat) (l:List ResultVar) (gl:List Gho) (R:AV→Mem→Prop) (o:Option Out):Prop:=∃ r m,finK P d l gl o=some (r,m)∧R r m
theorem zny {g:Cfg} {P:Program} {f:Nat} {args:List AV} {mem:Mem} {d:Nat} {fn:Func} {R:AV→Mem→Prop} (c:Code) (l:List ResultVar) {tk:List Nat} {kp:List (Nat × Kp)} {cs:List (Nat × (List AV→Option AV))} {gl:List (Nat × List Gho)} (G:Has P g f fn tk kp cs gl) (h1:P.funcs[f]?=some fn) (h2:fn.body=some c)
 (h4:args.length≤fn.ntmps) (h5:fn.results.toList=l) (h:Goal (FnEndM P d l ((lookN atEnd gl).getD []) R) (evk g (d+1) f c [] { env:=fun t=>(args[t]?).getD .dead,mem })):∃ r m,callo g d f args mem=some (r,m)∧R r m:=by
 rw [zpc l G.no G.P h1 h2 G.ok h4 h5,G.gh]
 exact h
theorem zfl {g:Cfg} {d f:Nat} {T:Option Out→Prop} {ops:Array Oper} {dst:Option Nat} {l:List Oper} {K:List It} {env:Nat→AV} {k:Nat} {args:List AV} {mem mem':Mem} (args':List AV) (r:AV) (ha:args=args') (h:callo g d k args' mem=some (r,mem'))
 (h2:Goal T (opsK g d f ops l K { env:=putD env dst r,mem:=mem' })):Goal T (retK g d f ops dst l K env (callo g d k args mem)):=by
 subst ha
 rw [h]
 exact h2
def rowKp:Kp:={ hd:=[0,1,5],bx:=[],ex:=[1],rt:=[] }
def RowNext (b:C) (k:Int) (i:Nat) (Q:Mem→Prop) (o:Option Out):Prop :=
 ∃ σ,o=some (.norm σ)∧σ.env 0=.one b∧σ.env 1=.one (.s (.int .i64 k))∧σ.env 5=.one (.s (.int .i64 (i:Int)))∧Q σ.mem
def RowLast (k:Int) (Q:Mem→Prop) (o:Option Out):Prop:=∃ σ,o=some (.exit 0 σ)∧σ.env 1=.one (.s (.int .i64 k))∧Q σ.mem
def rowStep (n:Nat):Nat→Option (Nat ⊕ Unit):=fun i=>if i < n then some (.inl (i+1)) else some (.inr ())
theorem zmw (n:Nat):∀ (m i:Nat),i+m=n→iter (rowStep n) i=some ()
 | 0,i,h=>zfb (by unfold rowStep;rw [if_neg (by omega)])
 | m+1,i,h=>by
  rw [zhd (s':=i+1) (by unfold rowStep;rw [if_pos (by omega)])]
  exact zmw n m (i+1) (by omega)
theorem zlr {α:Type} [Enc α] {g:Cfg} {e f:Nat} {T:Option Out→Prop} {c:Code} {K:List It} {σ:St} (F:α→Int→α × Int) (xs:List α) (k:Int) (d:Nat) (r:List Nat) (mem0:Mem)
 (hk:lookK (f,rid c) g.keep=some rowKp) (h0:σ.env 0=.one (.bs (d,pk r) xs.length (szD xs.length (encL xs)))) (h1:σ.env 1=.one (.s (.int .i64 k))) (h5:σ.env 5=.one (.s (.int .i64 0)))
 (hR:RowI σ.mem d r (encL xs)) (hm:MemU mem0 σ.mem d r) (hl:xs.length≤9223372036854775806)
 (round:∀ (i:Nat) (A B:List D) (x:α) (k':Int) (σ':St),x∈xs→i < xs.length→i≤9223372036854775806→A.length=i * Enc.sz α→σ'.env 0=.one (.bs (d,pk r) xs.length (Enc.sz α))→σ'.env 1=.one (.s (.int .i64 k'))→σ'.env 5=.one (.s (.int .i64 (i:Int))) →
  RowI σ'.mem d r (A ++ (enc x ++ B))→MemU mem0 σ'.mem d r →
  Goal (RowNext (.bs (d,pk r) xs.length (Enc.sz α)) (F x k').2 (i+1) fun m=>RowI m d r (A ++ (enc (F x k').1 ++ B))∧MemU mem0 m d r) (evk g e f c [] σ'))
 (last:∀ (z:Nat) (k':Int) (σ':St),σ'.env 0=.one (.bs (d,pk r) xs.length z)→σ'.env 1=.one (.s (.int .i64 k'))→σ'.env 5=.one (.s (.int .i64 (xs.length:Int)))→Goal (RowLast k' fun m=>m=σ'.mem) (evk g e f c [] σ'))
 (after:∀ σ',σ'.env 1=.one (.s (.int .i64 (mkRow F xs k).2))→RowI σ'.mem d r (encL (mkRow F xs k).1)→MemU mem0 σ'.mem d r→Goal T (runK g e f K (.exit 0 σ'))):Goal T (evk g e f (.loop c) K σ):=by
 refine loopP (step:=rowStep xs.length) (s0:=0) (r:=()) rowKp (fun i σ'=>i≤xs.length∧σ'.env 0=.one (.bs (d,pk r) xs.length (szD xs.length (encL xs)))∧σ'.env 1=.one (.s (.int .i64 (mkRow F (xs.take i) k).2))∧σ'.env 5=.one (.s (.int .i64 (i:Int))) ∧
  RowI σ'.mem d r (encL ((mkRow F (xs.take i) k).1 ++ xs.drop i))∧MemU mem0 σ'.mem d r)
  (fun _ out=>∃ σ',out=.exit 0 σ'∧σ'.env 1=.one (.s (.int .i64 (mkRow F xs k).2))∧RowI σ'.mem d r (encL (mkRow F xs k).1)∧MemU mem0 σ'.mem d r) (zmw xs.length xs.length 0 (by omega)) hk ?_ ?_ ?_
 ·exact ⟨by omega,by simp [zac,rowKp,h0],by simp [zac,rowKp,h1,mkRow],by simp [zac,rowKp,h5],by simpa [rowKp,mkRow] using hR,by simpa [rowKp] using hm⟩
 ·intro i σ' a hI hs
  obtain ⟨hi,e0,e1,e5,eR,eM⟩:=hI
  unfold rowStep at hs
  by_cases hlt:i < xs.length
  ·rw [if_pos hlt] at hs
   cases hs
   have hne:xs≠[]:=by rintro rfl;simp at hlt
   rw [zqs hne] at e0
   have hrow:encL ((mkRow F (xs.take i) k).1 ++ xs.drop i)=encL (mkRow F (xs.take i) k).1 ++ (enc xs[i] ++ encL (xs.drop (i+1))):=by
    rw [encL_append,List.drop_eq_getElem_cons hlt,zax]
   rw [hrow] at eR
   have hA:(encL (mkRow F (xs.take i) k).1).length=i * Enc.sz α:=by rw [zcj,zja,List.length_take,Nat.min_eq_left (by omega)]
   have hr:=round i _ _ xs[i] _ σ' (List.getElem_mem hlt) hlt (by omega) hA e0 e1 e5 eR eM
   have ht:xs.take (i+1)=xs.take i ++ [xs[i]]:=by simp
   obtain ⟨σ2,ho,f0,f1,f5,fR,fM⟩:=hr
   rw [ho]
   refine ⟨by omega,by simp [zac,rowKp,f0,zqs hne],?_,by simp [zac,rowKp,f5],?_,by simpa [rowKp] using fM⟩
   ·rw [ht,zmj];simp [zac,rowKp,f1]
   ·rw [ht,zmj]
    simpa [rowKp] using fR
  ·rw [if_neg hlt] at hs
   cases hs
   have hin:i=xs.length:=by omega
   subst hin
   obtain ⟨σ2,ho,f1,fm⟩:=last _ _ σ' e0 e1 e5
   rw [ho]
   rw [List.take_of_length_le (Nat.le_refl _)] at f1
   rw [List.take_of_length_le (Nat.le_refl _),List.drop_of_length_le (Nat.le_refl _),List.append_nil] at eR
   exact ⟨_,rfl,by simp [zac,rowKp,f1],by simpa [rowKp,fm] using eR,by simpa [rowKp,fm] using eM⟩
 ·rintro out ⟨σ',rfl,g1,gR,gM⟩
  exact after σ' g1 gR gM

theorem shape_row {α:Type} [Enc α] {xs ys:List α} (h:ys.length=xs.length) (d:Nat) (p:List Nat) (i:Nat):bxL d p i (enc ys)=bxL d p i (enc xs):=by
 have:szD xs.length (encL ys)=szD xs.length (encL xs):=by unfold szD;rw [zcj,zcj,h]
 rw [zil,zil,bxL,bxL,h]
 simp only [bxC,this,bxL]
def MkOK {α:Type} [Enc α] [Sm α] (g:Cfg) (fn:Nat) (agg:Bool) (F:α→Int→α × Int):Prop:=∀ x k,Sm.lg x→MarkOK g fn agg (enc x) (enc (F x k).1) k (F x k).2
theorem zig {α:Type} [Enc α] [Sm α] {g:Cfg} {fn:Nat} {F:α→Int→α × Int}
 (h:∀ (xs:List α) k d e r mem,Sm.lg xs→d≤e→Tight e mem→RowI mem d r (encL xs)→∃ R m,callo g e fn [.one (.bs (d,pk r) xs.length (szD xs.length (encL xs))),.one (.s (.int .i64 k))] mem=some (R,m) ∧
  R=.one (.s (.int .i64 (mkRow F xs k).2))∧MemU mem m d r∧RowI m d r (encL (mkRow F xs k).1)):MkOK g fn false (mkRow F):=by
 intro xs k hx
 refine ⟨fun d p i=>shape_row (zja F xs k) d p i,fun d e p i mem hd hT hs=>?_⟩
 rw [zil,subL,subD] at hs
 obtain ⟨R,m,hc,rfl,hM,hR⟩:=h xs k d e (p ++ [i]) mem hx hd hT hs.1
 refine ⟨m,hc,?_,?_⟩
 ·rw [zil];exact hM.down
 ·rw [zil,subL,subD];exact ⟨hR,by rw [subL];trivial⟩
theorem zpv {d:Nat} {r:List Nat} {row pre post:List D} {c:D} {j:Nat} (h:row=pre ++ (c :: post)) (hj:pre.length=j):seg (bxL d r 0 row) j 1=some [bxC d (r ++ [pre.length]) c]:=by
 subst h hj
 have:=@seg_mid C (bxL d r 0 pre) [bxC d (r ++ [pre.length]) c] (bxL d r (0+pre.length+1) post) 0 1 (by simp)
 rw [zdh] at this
 rw [zjj,bxL,Nat.zero_add] at *
 exact this.trans rfl
theorem MemR.wide {m0 m:Mem} {d:Nat} {p:List Nat} {i n i' n':Nat} (h:MemR m0 m d p i' n') (h1:i≤i') (h2:i' + n'≤i+n):MemR m0 m d p i n :=
 ⟨h.clo,fun key hk=>h.far key fun j r a b=>hk j r (by omega) (by omega)⟩
theorem MemR.trans {m0 m1 m2:Mem} {d:Nat} {p:List Nat} {i n:Nat} (h1:MemR m0 m1 d p i n) (h2:MemR m1 m2 d p i n):MemR m0 m2 d p i n :=
 ⟨fun q hq h=>h2.clo q hq (h1.clo q hq h),fun key hk=>(h2.far key hk).trans (h1.far key hk)⟩
theorem MemR.refl (m:Mem) (d:Nat) (p:List Nat) (i n:Nat):MemR m m d p i n:=⟨fun _ _ h=>h,fun _ _=>rfl⟩
theorem MemR.tight {m0 m:Mem} {d D:Nat} {p:List Nat} {i n:Nat} (h:MemR m0 m d p i n) (hd:d≤D) (hT:Tight D m0):Tight D m :=
 h.clo _ (fun key hk=>by simp;omega) hT
theorem znw {g:Cfg} {fn:Nat} {agg:Bool} {F F':List D} {k k':Int} (hM:MarkOK g fn agg F F' k k') {mem:Mem} {d e:Nat} {p:List Nat} {i:Nat} {cs pre post:List D} (hcs:cs=pre ++ (F ++ post)) (hd:d≤e) (hT:Tight e mem) (hR:subL mem d p i cs) :
 ∃ mem',callo g e fn [avC agg (bxL d p (i+pre.length) F),.one (.s (.int .i64 k))] mem=some (.one (.s (.int .i64 k')),mem')∧subL mem' d p i (pre ++ (F' ++ post))∧MemR mem mem' d p i cs.length:=by
 subst hcs
 rw [zfx,zfx] at hR
 obtain ⟨s1,s2,s3⟩:=hR
 obtain ⟨mem',hc,hr,hs⟩:=hM.2 d e p (i+pre.length) mem hd hT s2
 have hlen:F'.length=F.length:=by
  have:=congrArg List.length (hM.1 d p 0)
  rwa [zdh,zdh] at this
 refine ⟨mem',hc,?_,hr.wide (by omega) (by simp only [List.length_append];omega)⟩
 rw [zfx,zfx,hlen]
 exact ⟨zff (fun j q _ hj=>hr.far _ fun j' s hj1 hj2=>zck (zkq (by omega))) s1,hs,zff (fun j q hj _=>hr.far _ fun j' s hj1 hj2=>zck (zkq (by omega))) s3⟩
theorem zjb (p q:Key→Bool) (m:Mem):memKill p (memKill q m)=memKill (fun k=>q k || p k) m:=by
 funext k
 unfold memKill
 by_cases h1:p k=true
 ·rw [if_pos h1,if_pos (by simp [h1])]
 ·by_cases h2:q k=true
  ·rw [if_neg h1,if_pos h2,if_pos (by simp [h2])];rfl
  ·rw [if_neg h1,if_neg h2,if_neg (by simp [h1,h2])]
   cases m k with
   | none=>rfl
   | some cs=>simp only [Option.map_some,zbm]
theorem memKill_sub {p q:Key→Bool} (hpq:∀ k,q k=true→p k=true) {m:Mem} (h:memKill p m=m):memKill q m=m:=by
 have h2:(fun k=>p k || q k)=p:=by
  funext k
  cases hq:q k with
  | false=>simp
  | true=>rw [hpq k hq];rfl
 rw [← h,zjb,h2]
theorem byval_end {mem m:Mem} {d e b:Nat} {p:List Nat} {i n:Nat} {cs cs':List D} {i0:Nat} (hd:d≤e) (hT:Tight e mem) (hr:MemR (upd mem (e+1,b) (some (bxL d p i0 cs))) m d p i n) (hs:subL m d p i cs') :
 MemR mem (memKill (fun k=>decide (e < k.1)) m) d p i n∧subL (memKill (fun k=>decide (e < k.1)) m) d p i cs':=by
 have hlow:∀ key:Key,key.1=d→decide (e < key.1)=false:=fun key hk=>by simp;omega
 refine ⟨⟨fun q hq h=>?_,fun key hk=>?_⟩,zew (q:=fun k=>decide (e < k.1)) (fun j r _=>hlow _ rfl) (fun j r _=>by
  unfold memKill
  rw [if_neg (by simp;omega)]) hs⟩
 ·let q':Key→Bool:=fun k=>q k && !(k == (e+1,b))
  have hq':memKill q' m=m:=by
   refine hr.clo q' (fun key hk=>by simp [q',hq key hk]) ?_
   have h0:memKill q' mem=mem:=memKill_sub (fun k hk=>by simp only [q',Bool.and_eq_true] at hk;exact hk.1) h
   funext k
   unfold memKill
   by_cases hk:k=(e+1,b)
   ·subst hk
    rw [if_neg (by simp [q']),zfs,if_pos rfl,Option.map_some,zfp fun j _=>by simp only [q'];rw [hq (d,pk (p ++ [j])) rfl];rfl]
   ·have:=congrFun h0 k
    unfold memKill at this
    rw [zfs,if_neg hk]
    exact this
  rw [zjb]
  conv=>rhs;rw [← hq',zjb]
  congr 1
  funext k
  by_cases hk:k=(e+1,b)
  ·subst hk;simp
  ·have:q' k=q k:=by simp [q',hk]
   rw [this,Bool.or_comm]
 ·by_cases hkb:key=(e+1,b)
  ·subst hkb
   unfold memKill
   rw [if_pos (by simp)]
   exact (hT.none (by simp)).symm
  ·have h1:m key=mem key:=by
    rw [hr.far key hk,zfs,if_neg hkb]
   have h2:=congrFun hT key
   unfold memKill at h2 ⊢
   rw [h1]
   exact h2
def markO {α:Type} [Sm α] (F:α→Int→α × Int) (x:α) (k:Int):Option (α × Int):=by
 classical exact if Sm.lg x then some (F x k) else none
theorem zfy {α:Type} [Sm α] {F:α→Int→α × Int} {x:α} {k:Int} {r:α × Int} (h:markO F x k=some r):Sm.lg x∧F x k=r:=by
 unfold markO at h
 split at h
 ·rename_i hl;exact ⟨hl,Option.some.inj h⟩
 ·cases h
theorem zqd {α:Type} [Sm α] {F:α→Int→α × Int} {x:α} {k:Int} (h:Sm.lg x):markO F x k=some (F x k):=by
 unfold markO
 rw [if_pos h]
theorem zhl {key:Key} (h:bigK≤key.2) (a b:Nat) (hb:b < bigK):(key=(a,b))=False:=by
 simp only [eq_iff_iff,iff_false]
 rintro rfl
 simp only at h
 omega
end Go.Ev


namespace Go.Ev
def totC {α:Type} (cnt:α→Nat) (xs:List α):Nat:=(xs.map cnt).sum
theorem zkv {α:Type} (cnt:α→Nat) (x:α) (xs:List α):totC cnt (x :: xs)=cnt x+totC cnt xs:=by simp [totC]
theorem totC_le {α:Type} (cnt:α→Nat) (N:Nat):∀ xs:List α,(∀ x∈xs,cnt x≤N)→totC cnt xs≤xs.length * N
 | [],_=>by simp [totC]
 | x :: xs,h=>by
  have h1:=h x (List.mem_cons_self ..)
  have h2:=totC_le cnt N xs fun y hy=>h y (List.mem_cons_of_mem _ hy)
  rw [zkv,List.length_cons,Nat.add_mul]
  omega
def maxMark:Int:=4611686018427387904
theorem zlh {α:Type} {E:α→Int→α × Int} {cnt:α→Nat} (hE:∀ x k,0≤k→k+cnt x≤maxMark→(E x k).2=k+cnt x):∀ (xs:List α) (k:Int),0≤k→k+totC cnt xs≤maxMark→(mkRow E xs k).2=k+totC cnt xs
 | [],k,_,_=>by simp [mkRow,totC]
 | x :: xs,k,hk,hb=>by
  rw [zkv] at hb
  have h1:=hE x k hk (by omega)
  rw [mkRow]
  simp only
  rw [zlh hE xs (E x k).2 (by omega) (by omega),zkv,h1]
  omega
theorem zrq {α:Type} {E:α→Int→α × Int} {cnt:α→Nat} {xs ys:List α} {step:Int × Int→Option ((Int × Int) ⊕ (Int ⊕ Int))} (hE:∀ x k,0≤k→k+cnt x≤maxMark→(E x k).2=k+cnt x)
 (h1:∀ (i:Nat) x k,x∈xs→i < ys.length→ys[i]?=some (E x k).1→0≤k→k+cnt x≤maxMark→step (k,(i:Int))=some (.inl ((E x k).2,addI i 1)))
 (h2:∀ k,step (k,ys.length)=some (.inr (.inr k))) {k:Int} (hys:ys=(mkRow E xs k).1) (hl:xs.length≤9223372036854775806) (hk:0≤k) (hb:k+totC cnt xs≤maxMark) :
 iter step (k,0)=some (.inr (mkRow E xs k).2):=by
 have key:∀ (s:List α) (i:Nat) (k':Int),xs.drop i=s→ys.drop i=(mkRow E s k').1→i+s.length=ys.length→0≤k'→k' + totC cnt s≤maxMark→iter step (k',(i:Int))=some (.inr (mkRow E s k').2):=by
  intro s
  induction s with
  | nil =>
   intro i k' _ _ hi _ _
   simp only [List.length_nil,Nat.add_zero] at hi
   subst hi
   exact zfb (h2 k')
  | cons x s ih =>
   intro i k' hx0 hd hi hk' hb'
   have hmx:x∈xs:=List.mem_of_mem_drop (i:=i) (by rw [hx0];exact List.mem_cons_self ..)
   have hx1:xs.drop (i+1)=s:=by
    have:=congrArg List.tail hx0
    simpa using this
   rw [mkRow] at hd
   rw [zkv] at hb'
   simp only [List.length_cons] at hi
   have hx:ys[i]?=some (E x k').1:=by
    have:=congrArg (fun l=>l[0]?) hd
    simpa using this
   have hd2:ys.drop (i+1)=(mkRow E s (E x k').2).1:=by
    have:=congrArg List.tail hd
    simpa using this
   have hs:=hE x k' hk' (by omega)
   have hyl:ys.length≤9223372036854775806:=by rw [hys,zja];exact hl
   rw [zhd (h1 i x k' hmx (by omega) hx hk' (by omega)),zap (by omega) (by omega)]
   have:=ih (i+1) (E x k').2 hx1 hd2 (by omega) (by omega) (by omega)
   rw [mkRow]
   exact this
 exact key xs 0 k rfl (by simpa using hys) (by rw [hys,zja];simp) hk hb
end Go.Ev


namespace Go.Ev
open Wf (wf)
open Sm (sm lg)
instance:Wf TNode:=⟨fun x=>wf x.vars∧wf x.reach∧wf x.shared∧wf x.many⟩
instance:Sm TNode:=⟨fun x=>sm x.vars∧sm x.reach,fun x=>lg x.vars∧lg x.reach,fun x h=>⟨Sm.le _ h.1,Sm.le _ h.2⟩⟩
instance:DecidableEq TNode:=fun a b=>by
 cases a;cases b
 simp only [TNode.mk.injEq]
 infer_instance
instance:Wf TStructure:=⟨fun x=>wf x.nodes∧wf x.next⟩
instance:Sm TStructure:=⟨fun x=>sm x.nodes∧sm x.next,fun x=>lg x.nodes∧lg x.next,fun x h=>⟨Sm.le _ h.1,Sm.le _ h.2⟩⟩
instance:DecidableEq TStructure:=fun a b=>by
 cases a;cases b
 simp only [TStructure.mk.injEq]
 infer_instance
instance:Wf THeap:=⟨fun x=>wf x.vars∧wf x.next⟩
instance:Sm THeap:=⟨fun x=>sm x.vars∧sm x.next,fun x=>lg x.vars∧lg x.next,fun x h=>⟨Sm.le _ h.1,Sm.le _ h.2⟩⟩
instance:DecidableEq THeap:=fun a b=>by
 cases a;cases b
 simp only [THeap.mk.injEq]
 infer_instance
end Go.Ev


namespace Go.Ev
open Enc (enc)
instance:WfE TNode:=⟨fun x=>by
 show wfL (enc x.vars ++ (enc x.reach ++ (enc x.shared ++ (enc x.many ++ ([])))))
 simp only [znm]
 exact ⟨WfE.wfE x.vars,WfE.wfE x.reach,WfE.wfE x.shared,WfE.wfE x.many,trivial⟩⟩
instance:WfE TStructure:=⟨fun x=>by
 show wfL (enc x.nodes ++ (enc x.next ++ ([])))
 simp only [znm]
 exact ⟨WfE.wfE x.nodes,WfE.wfE x.next,trivial⟩⟩
def zdv:Int→Int→Int × Int:=fun x k'=>(k',addI k' 1)
def zae:List Int→Int→List Int × Int:=mkRow zdv
def zer:Int→Nat:=fun _=>1
def zcx:List Int→Nat:=totC zer
def zdj (x:TNode) (k':Int):TNode × Int:=(⟨(zae x.vars k').1,(zae x.reach ((zae x.vars k').2)).1,(zae x.reach ((zae x.vars k').2)).2,addI ((zae x.reach ((zae x.vars k').2)).2) 1⟩,addI (addI ((zae x.reach ((zae x.vars k').2)).2) 1) 1)
def zah:List TNode→Int→List TNode × Int:=mkRow zdj
def zda:TNode→Nat:=fun x=>zcx x.vars+zcx x.reach+1+1
def zec:List TNode→Nat:=totC zda
def zbi (x:TStructure) (k':Int):TStructure × Int:=(⟨(zah x.nodes k').1,(zae x.next ((zah x.nodes k').2)).1⟩,(zae x.next ((zah x.nodes k').2)).2)
def zal:List TStructure→Int→List TStructure × Int:=mkRow zbi
def zbn:TStructure→Nat:=fun x=>zec x.nodes+zcx x.next
def zdc:List TStructure→Nat:=totC zbn
def zep (x:TStructure) (k:Int):TStructure × Int:=(⟨(zah x.nodes k).1,(zae x.next ((zah x.nodes k).2)).1⟩,(zae x.next ((zah x.nodes k).2)).2)
instance:WfE THeap:=⟨fun x=>by
 show wfL (enc x.vars ++ (enc x.next ++ ([])))
 simp only [znm]
 exact ⟨WfE.wfE x.vars,WfE.wfE x.next,trivial⟩⟩
def zie (x:THeap) (k':Int):THeap × Int:=(⟨(zae x.vars k').1,(zae x.next ((zae x.vars k').2)).1⟩,(zae x.next ((zae x.vars k').2)).2)
def zli:List THeap→Int→List THeap × Int:=mkRow zie
end Go.Ev

