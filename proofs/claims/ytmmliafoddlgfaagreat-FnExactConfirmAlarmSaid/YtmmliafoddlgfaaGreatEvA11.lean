import Derived.Test.YtmmliafoddlgfaaGreatEvA10
set_option linter.unusedSimpArgs false
set_option linter.unusedVariables false
set_option linter.unnecessarySimpa false
noncomputable section
namespace Go.Ev
theorem spec_copy (h:THeap) (o:okH h):spec_l7Copy h=some h:=by
 unfold spec_l7Copy
 have o1:=o.1
 have o2:=o.2
 simp [room_small (show ([]:List Int).length+h.vars.length≤4000000 by simp;omega) (show 8≤1000 by omega),room_small (show ([]:List Int).length+h.next.length≤4000000 by simp;omega) (show 8≤1000 by omega)]
 simp [room_small (show h.vars.length≤4000000 by omega) (show 8≤1000 by omega),room_small (show h.next.length≤4000000 by omega) (show 8≤1000 by omega)]
structure Good (nv:Nat) (h:THeap):Prop where
 v1:h.vars.length=nv
 v2:1≤nv∧nv≤4
 n1:h.next.length≤6
 cv:∀ x∈h.vars,-1≤x∧x < (h.next.length:Int)
 cn:∀ x∈h.next,-1≤x∧x < (h.next.length:Int)
theorem good_of {nv:Nat} {h:THeap} (hh:isHeapB (nv:Int) h=true):Good nv h:=by
 unfold isHeapB at hh
 simp only [Bool.and_eq_true,decide_eq_true_eq,cellsB,List.all_eq_true,inH] at hh
 obtain ⟨⟨⟨⟨⟨h1,h2⟩,h3⟩,h4,h5⟩,_⟩,_⟩:=hh
 exact ⟨by omega,by omega,by omega,fun x hx=>by have:=h4 x hx;omega,fun x hx=>by have:=h5 x hx;omega⟩
theorem Good.ok {nv:Nat} {h:THeap} (g:Good nv h):okH h:=⟨by have:=g.v1;have:=g.v2;omega,by have:=g.n1;omega⟩
theorem ok_set {h:THeap} {a:Nat} {x:Int} (o:okH h):okH ⟨h.vars.set a x,h.next⟩:=⟨by simpa using o.1,o.2⟩
theorem ok_setn {h:THeap} {a:Nat} {x:Int} (o:okH h):okH ⟨h.vars,h.next.set a x⟩:=⟨o.1,by simpa using o.2⟩
theorem getD_mem {xs:List Int} {i:Int} (h:0≤i∧i < (xs.length:Int)):xs.getD i.toNat 0∈xs:=by
 have:i.toNat < xs.length:=by omega
 simp [List.getD,this]
theorem impl_at (h:THeap) (vars:List ByteArray) (nm:ByteArray) (hn:smN vars) (hl:h.vars.length=vars.length):impl_Heap_at h vars nm=some (if 0≤idxS vars nm then h.vars.getD (idxS vars nm).toNat 0 else -1):=by
 unfold impl_Heap_at
 have hr:=idxS_in vars nm
 rw [impl_indexOf vars nm hn.1,Option.bind_some,cond_le]
 by_cases h0:0≤idxS vars nm
 ·rw [if_pos h0,if_pos h0,at_in (by omega)];rfl
 ·rw [if_neg h0,if_neg h0]
theorem max0 (x:Int):spec_l1Max 0 x=some (if x < 0 then 0 else x):=by
 unfold spec_l1Max
 rw [zaq]
 split <;> rfl
theorem isTest_eq (s:TStmt):impl_IsTest s=some (decide (9≤s.kind∧s.kind≤12))∧spec_IsTest s=some (decide (9≤s.kind∧s.kind≤12)):=by
 unfold impl_IsTest spec_IsTest
 rw [within_eq,l1In_eq]
 exact ⟨rfl,rfl⟩
structure Both (vars:List ByteArray) (s:TStmt) (h:THeap) (r:THeap × Int):Prop where
 spec:spec_Exec vars s h=some r
 impl:impl_Exec vars s h=some r
 tiny:r.1.vars.length≤4∧r.1.next.length≤7
theorem fin_tiny {x:THeap} (h:x.vars.length≤4∧x.next.length≤7):(finF x).1.vars.length≤4∧(finF x).1.next.length≤7:=by
 have:=canF_len x
 unfold finF
 split
 ·simp
 ·exact ⟨Nat.le_trans this.1 h.1,Nat.le_trans this.2 h.2⟩
theorem len_set {h:THeap} {nv a:Nat} {x:Int} (g:Good nv h):(h.vars.set a x).length≤4∧h.next.length≤7:=⟨by have:=g.v1;have:=g.v2;simp;omega,by have:=g.n1;omega⟩
theorem len_setn {h:THeap} {nv a:Nat} {x:Int} (g:Good nv h):h.vars.length≤4∧(h.next.set a x).length≤7:=⟨by have:=g.v1;have:=g.v2;omega,by have:=g.n1;simp;omega⟩
def specTail (s:TStmt) (h:THeap) (A B:Int):Option (THeap × Int):=(spec_l8Do s h A B).bind fun y=>cond (neI y.2 0) (some ((⟨[],[]⟩:THeap),y.2)) ((spec_HasLeak y.1).bind fun y_54=>cond y_54 (some ((⟨[],[]⟩:THeap),(4:Int))) ((spec_CanonHeap y.1).bind fun y_58=>some (y_58,0)))
theorem specTail_ok {s:TStmt} {h:THeap} {A B:Int} {x:THeap} (hd:spec_l8Do s h A B=some (x,0)) (o:okH x):specTail s h A B=some (finF x):=by
 unfold specTail
 rw [hd,Option.bind_some]
 exact spec_fin x o
theorem specTail_err {s:TStmt} {h:THeap} {A B:Int} {x:THeap} {c:Int} (hd:spec_l8Do s h A B=some (x,c)) (hc:c≠0):specTail s h A B=some (⟨[],[]⟩,c):=by
 unfold specTail
 rw [hd,Option.bind_some]
 simp [neI,hc]
def implTail (s:TStmt) (h:THeap) (own va vb:Int):Option (THeap × Int):=(zap h s own va vb).bind fun x=>(impl_HasLeak x).bind fun y_54=>cond y_54 (some ((⟨[],[]⟩:THeap),(4:Int))) ((impl_CanonHeap x).bind fun y_58=>some (y_58,0))
theorem implTail_ok {s:TStmt} {h:THeap} {own va vb:Int} {x:THeap} (hd:zap h s own va vb=some x) (o:okH x):implTail s h own va vb=some (finF x):=by
 unfold implTail
 rw [hd,Option.bind_some]
 exact impl_fin x o
def specMid (k:Int) (a b:ByteArray) (h:THeap) (A B:Int):Option (THeap × Int) :=
 (spec_l8Null ⟨k,a,b⟩ h A B).bind fun y_64=>cond y_64 (some ((⟨[],[]⟩:THeap),(2:Int)))
  ((show Option Bool from cond (eqI k 3) (some (eqI (h.next.length:Int) 6)) (some false)).bind fun r_68=>cond r_68 (some ((⟨[],[]⟩:THeap),(6:Int))) (specTail ⟨k,a,b⟩ h A B))
def implMid (k:Int) (a b:ByteArray) (h:THeap) (own va vb:Int):Option (THeap × Int) :=
 (impl_needs k va vb).bind fun y_31=>(show Option Bool from cond y_31.2 (some (eqI y_31.1 (-1))) (some false)).bind fun r_59=>cond r_59 (some ((⟨[],[]⟩:THeap),(2:Int)))
  ((show Option Bool from cond (eqI k 3) (some (eqI (h.next.length:Int) 6)) (some false)).bind fun r_76=>cond r_76 (some ((⟨[],[]⟩:THeap),(6:Int)))
   ((show Option Bool from cond (eqI k 8) ((impl_Positions h.vars va).bind fun y_109=>cond (ltI 1 (y_109.length:Int)) (some true) ((zam h.next va).bind fun y_113=>some y_113)) (some false)).bind fun r_93=>cond r_93 (some ((⟨[],[]⟩:THeap),(5:Int)))
    ((show Option Bool from cond (eqI k 7) ((impl_Followed h vb).bind fun y_133=>(zam y_133 va).bind fun y_136=>some y_136) (some false)).bind fun r_117=>cond r_117 (some ((⟨[],[]⟩:THeap),(3:Int))) (implTail ⟨k,a,b⟩ h own va vb))))
def testB (k va vb:Int):Bool:=if k=9 then decide (va = -1) else if k=10 then !decide (va = -1) else if k=11 then decide (va=vb) else !decide (va=vb)
theorem spec_test (k va vb:Int):spec_l8Test k va vb=some (testB k va vb):=by
 unfold spec_l8Test testB
 simp only [cond_eq]
 split
 ·rfl
 ·split
  ·rfl
  ·split <;> rfl
theorem impl_test (k va vb:Int):impl_holds k va vb=some (testB k va vb):=by
 unfold impl_holds testB
 simp only [cond_eq]
 split
 ·rfl
 ·split
  ·rfl
  ·split <;> rfl
theorem specMid_go {k:Int} {a b:ByteArray} {h:THeap} {A B:Int} (h3:eqI k 3=false) (hn:spec_l8Null ⟨k,a,b⟩ h A B=some false):specMid k a b h A B=specTail ⟨k,a,b⟩ h A B:=by
 unfold specMid
 rw [hn,h3]
 rfl
theorem specMid_nul {k:Int} {a b:ByteArray} {h:THeap} {A B:Int} (hn:spec_l8Null ⟨k,a,b⟩ h A B=some true):specMid k a b h A B=some (⟨[],[]⟩,2):=by
 unfold specMid
 rw [hn]
 rfl
theorem implMid_nul {k:Int} {a b:ByteArray} {h:THeap} {own va vb v:Int} (hn:impl_needs k va vb=some (v,true)) (hv:v = -1):implMid k a b h own va vb=some (⟨[],[]⟩,2):=by
 unfold implMid
 rw [hn,hv]
 rfl
theorem need_ok {v:Int} {is:Bool} (hz:is=true→v≠-1):cond is (some (eqI v (-1))) (some false)=some false:=by
 cases is
 ·rfl
 ·have:=hz rfl
  simp [eqI,this]
theorem implMid_go {k:Int} {a b:ByteArray} {h:THeap} {own va vb v:Int} {is:Bool} (h3:eqI k 3=false) (h8:eqI k 8=false) (h7:eqI k 7=false) (hn:impl_needs k va vb=some (v,is)) (hz:is=true→v≠-1):implMid k a b h own va vb=implTail ⟨k,a,b⟩ h own va vb:=by
 have:=need_ok hz
 unfold implMid
 simp only [hn,Option.bind_some,h3,h8,h7,cond_false,this]
theorem exec_both (vars:List ByteArray) (s:TStmt) (h:THeap) (hn:smN vars):∃ r,Both vars s h r:=by
 cases hst:stB vars s with
 | false=>exact ⟨(⟨[],[]⟩,7),by unfold spec_Exec;simp [spec_isStmt vars s hn,hst],by unfold impl_Exec;simp [impl_isStmt vars s hn,hst],by simp⟩
 | true =>
 cases hhp:isHeapB (vars.length:Int) h with
 | false=>exact ⟨(⟨[],[]⟩,7),by unfold spec_Exec;simp [spec_isStmt vars s hn,hst,spec_isHeap,hhp,notB],by unfold impl_Exec;simp [impl_isStmt vars s hn,hst,impl_isHeap,hhp,notB],by simp⟩
 | true =>
 have g:=good_of hhp
 have hv1:=g.v1
 have hv2:=g.v2
 have hn1:=g.n1
 have hnk:1≤s.kind∧s.kind≤12:=by
  unfold stB at hst
  simp only [Bool.and_eq_true,decide_eq_true_eq] at hst
  obtain ⟨_,h0,_⟩:=hst
  unfold nk at h0
  by_cases hc:1≤s.kind∧s.kind≤12
  ·exact hc
  ·rw [if_neg (by omega),if_neg (by omega),if_neg (by omega)] at h0
   omega
 have hia:=idxS_in vars s.a
 have hib:=idxS_in vars s.b
 have hA:nk s.kind ≥ 1→0≤idxS vars s.a:=fun hk=>by
  unfold stB at hst
  simp only [Bool.and_eq_true] at hst
  have:=hst.2.2.1
  rw [if_neg (by omega)] at this
  simpa using this
 have hB:nk s.kind ≥ 2→0≤idxS vars s.b:=fun hk=>by
  unfold stB at hst
  simp only [Bool.and_eq_true] at hst
  have:=hst.2.2.2
  rw [if_neg (by omega)] at this
  simpa using this
 obtain ⟨k,a,b⟩:=s
 simp only at hnk hA hB hia hib
 -- what stands at the names
 obtain ⟨ia,ea⟩:∃ ia,ia=idxS vars a:=⟨_,rfl⟩
 obtain ⟨ib,eb⟩:∃ ib,ib=idxS vars b:=⟨_,rfl⟩
 rw [← ea] at hia hA
 rw [← eb] at hib hB
 have atA:at? h.vars (if ia < 0 then 0 else ia)=some (h.vars.getD (if ia < 0 then 0 else ia).toNat 0):=at_in (by split <;> omega)
 have atB:at? h.vars (if ib < 0 then 0 else ib)=some (h.vars.getD (if ib < 0 then 0 else ib).toNat 0):=at_in (by split <;> omega)
 have S0:spec_Exec vars ⟨k,a,b⟩ h=((show Option Bool from cond (decide (9≤k∧k≤12)) ((spec_l8Test k (h.vars.getD (if ia < 0 then 0 else ia).toNat 0) (h.vars.getD (if ib < 0 then 0 else ib).toNat 0)).bind fun y=>some (notB y)) (some false)).bind fun r_33 =>
  cond r_33 (some ((⟨[],[]⟩:THeap),(1:Int))) (specMid k a b h (if ia < 0 then 0 else ia) (if ib < 0 then 0 else ib))):=by
  unfold spec_Exec specMid specTail
  simp only [spec_isStmt vars _ hn,hst,spec_isHeap,hhp,notB,Option.bind_some,cond_true,Bool.not_true,cond_false,spec_indexOf vars _ hn.1,← ea,← eb,max0,(isTest_eq _).2,atA,atB,spec_copy h g.ok]
 have I0:impl_Exec vars ⟨k,a,b⟩ h=((show Option Bool from cond (decide (9≤k∧k≤12)) ((impl_holds k (if 0≤ia then h.vars.getD ia.toNat 0 else -1) (if 0≤ib then h.vars.getD ib.toNat 0 else -1)).bind fun y=>some (notB y)) (some false)).bind fun r_33 =>
  cond r_33 (some ((⟨[],[]⟩:THeap),(1:Int))) (implMid k a b h ia (if 0≤ia then h.vars.getD ia.toNat 0 else -1) (if 0≤ib then h.vars.getD ib.toNat 0 else -1))):=by
  unfold impl_Exec implMid implTail
  simp only [impl_isStmt vars _ hn,hst,impl_isHeap,hhp,notB,Option.bind_some,cond_true,Bool.not_true,cond_false,impl_indexOf vars _ hn.1,← ea,← eb,impl_at h vars _ hn hv1,(isTest_eq _).1]
  unfold impl_needs
  simp only [cond_eq]
  split
  ·rfl
  ·split
   ·rfl
   ·split
    ·rfl
    ·split <;> rfl
 obtain ⟨A,hAd⟩:∃ A,A=(if ia < 0 then 0 else ia):=⟨_,rfl⟩
 obtain ⟨B,hBd⟩:∃ B,B=(if ib < 0 then 0 else ib):=⟨_,rfl⟩
 obtain ⟨va,hva⟩:∃ va,va=(if 0≤ia then h.vars.getD ia.toNat 0 else -1):=⟨_,rfl⟩
 obtain ⟨vb,hvb⟩:∃ vb,vb=(if 0≤ib then h.vars.getD ib.toNat 0 else -1):=⟨_,rfl⟩
 rw [← hAd] at S0 atA
 rw [← hBd] at S0 atB
 rw [← hva,← hvb] at I0
 have FA:nk k ≥ 1→A=ia∧0≤ia∧at? h.vars ia=some va∧-1≤va∧va < (h.next.length:Int)∧h.vars.getD A.toNat 0=va:=fun hk=>by
  have h0:=hA hk
  rw [if_neg (by omega)] at hAd
  rw [if_pos h0] at hva
  subst hAd
  have:=g.cv _ (getD_mem (xs:=h.vars) (i:=A) (by omega))
  rw [hva]
  exact ⟨rfl,h0,atA,this.1,this.2,rfl⟩
 have FB:nk k ≥ 2→B=ib∧0≤ib∧at? h.vars ib=some vb∧-1≤vb∧vb < (h.next.length:Int)∧h.vars.getD B.toNat 0=vb:=fun hk=>by
  have h0:=hB hk
  rw [if_neg (by omega)] at hBd
  rw [if_pos h0] at hvb
  subst hBd
  have:=g.cv _ (getD_mem (xs:=h.vars) (i:=B) (by omega))
  rw [hvb]
  exact ⟨rfl,h0,atB,this.1,this.2,rfl⟩
 have ok:=g.ok
 have cl1:slices_Clone_int h.vars=some h.vars:=clone_int _ ok.v
 have cl2:slices_Clone_int h.next=some h.next:=clone_int _ ok.n
 have S1:decide (9≤k∧k≤12)=false→spec_Exec vars ⟨k,a,b⟩ h=specMid k a b h A B:=fun hd=>by rw [S0,hd];rfl
 have I1:decide (9≤k∧k≤12)=false→impl_Exec vars ⟨k,a,b⟩ h=implMid k a b h ia va vb:=fun hd=>by rw [I0,hd];rfl
 have T1:decide (9≤k∧k≤12)=true→∀ tb,testB k (h.vars.getD A.toNat 0) (h.vars.getD B.toNat 0)=tb→testB k va vb=tb→eqI k 3=false→eqI k 8=false→eqI k 7=false→spec_l8Null ⟨k,a,b⟩ h A B=some false→impl_needs k va vb=some (0,false) →
  spec_l8Do ⟨k,a,b⟩ h A B=some (h,0)→zap h ⟨k,a,b⟩ ia va vb=some h→∃ r,Both vars ⟨k,a,b⟩ h r:=fun hd tb t1 t2 h3 h8 h7 n1 n2 d1 d2=>by
  have S:spec_Exec vars ⟨k,a,b⟩ h=cond (notB tb) (some ((⟨[],[]⟩:THeap),(1:Int))) (specMid k a b h A B):=by rw [S0,hd,spec_test,t1];rfl
  have I:impl_Exec vars ⟨k,a,b⟩ h=cond (notB tb) (some ((⟨[],[]⟩:THeap),(1:Int))) (implMid k a b h ia va vb):=by rw [I0,hd,impl_test,t2];rfl
  cases tb
  ·exact ⟨_,S,I,by simp⟩
  ·exact ⟨finF h,S.trans ((specMid_go h3 n1).trans (specTail_ok d1 ok)),I.trans ((implMid_go h3 h8 h7 n2 (fun e=>by cases e)).trans (implTail_ok d2 ok)),fin_tiny ⟨by omega,by omega⟩⟩
 rcases kinds hnk with rfl | rfl | rfl | rfl | rfl | rfl | rfl | rfl | rfl | rfl | rfl | rfl
 ·refine ⟨finF h,(S1 rfl).trans ((specMid_go rfl rfl).trans (specTail_ok rfl ok)),(I1 rfl).trans ((implMid_go rfl rfl rfl rfl (fun e=>by cases e)).trans (implTail_ok ?_ ok)),fin_tiny ⟨by omega,by omega⟩⟩
  unfold zap
  rw [cl1,cl2]
  rfl
 ·obtain ⟨rfl,h0,at1,w1,w2,_⟩:=FA (by decide)
  refine ⟨finF ⟨h.vars.set A.toNat (-1),h.next⟩,(S1 rfl).trans ((specMid_go rfl rfl).trans (specTail_ok ?_ (ok_set ok))),(I1 rfl).trans ((implMid_go rfl rfl rfl rfl (fun e=>by cases e)).trans (implTail_ok ?_ (ok_set ok))),fin_tiny (len_set g)⟩
  ·show (at? h.vars A).bind _=_
   rw [at1];rfl
  ·unfold zap
   rw [cl1,cl2]
   show (at? h.vars A).bind _=_
   rw [at1];rfl
 ·obtain ⟨rfl,h0,at1,w1,w2,_⟩:=FA (by decide)
  by_cases hf:(h.next.length:Int)=6
  ·refine ⟨(⟨[],[]⟩,6),(S1 rfl).trans ?_,(I1 rfl).trans ?_,by simp⟩
   ·show cond (eqI (h.next.length:Int) 6) _ _=_
    simp [eqI,hf]
   ·show cond (eqI (h.next.length:Int) 6) _ _=_
    simp [eqI,hf]
  ·have hr:room (h.next.length + [(-1:Int)].length) 8=some ():=room_small (by simp;omega) (by omega)
   have ok3:okH ⟨h.vars.set A.toNat (h.next.length:Int),h.next ++ [-1]⟩:=⟨by have:=ok.1;simpa using this,by simp;omega⟩
   refine ⟨finF ⟨h.vars.set A.toNat (h.next.length:Int),h.next ++ [-1]⟩,(S1 rfl).trans (Eq.trans (?_:_=specTail ⟨3,a,b⟩ h A B) (specTail_ok ?_ ok3)),(I1 rfl).trans (Eq.trans (?_:_=implTail ⟨3,a,b⟩ h A va vb) (implTail_ok ?_ ok3)),fin_tiny ⟨by simp;omega,by simp;omega⟩⟩
   ·show cond (eqI (h.next.length:Int) 6) _ _=_
    simp [eqI,hf]
   ·show (at? h.vars A).bind _=_
    rw [at1,Option.bind_some,hr];rfl
   ·show cond (eqI (h.next.length:Int) 6) _ _=_
    simp only [eqI,hf,decide_false,cond_false]
    rfl
   ·unfold zap
    rw [cl1,cl2]
    show (at? h.vars A).bind _=_
    rw [at1,Option.bind_some,hr];rfl
 ·obtain ⟨rfl,h0,at1,w1,w2,_⟩:=FA (by decide)
  obtain ⟨rfl,h0',at1',w1',w2',_⟩:=FB (by decide)
  refine ⟨finF ⟨h.vars.set A.toNat vb,h.next⟩,(S1 rfl).trans ((specMid_go rfl rfl).trans (specTail_ok ?_ (ok_set ok))),(I1 rfl).trans ((implMid_go rfl rfl rfl rfl (fun e=>by cases e)).trans (implTail_ok ?_ (ok_set ok))),fin_tiny (len_set g)⟩
  ·show (at? h.vars B).bind _=_
   rw [at1',Option.bind_some,at1];rfl
  ·unfold zap
   rw [cl1,cl2]
   show (at? h.vars A).bind _=_
   rw [at1];rfl
 ·obtain ⟨rfl,h0,at1,w1,w2,_⟩:=FA (by decide)
  obtain ⟨rfl,h0',at1',w1',w2',_⟩:=FB (by decide)
  by_cases hz:vb = -1
  ·refine ⟨(⟨[],[]⟩,2),(S1 rfl).trans (specMid_nul ?_),(I1 rfl).trans (implMid_nul rfl hz),by simp⟩
   show (at? h.vars B).bind _=_
   rw [at1'];simp [eqI,hz]
  ·have at2:at? h.next vb=some (h.next.getD vb.toNat 0):=at_in (by omega)
   refine ⟨finF ⟨h.vars.set A.toNat (h.next.getD vb.toNat 0),h.next⟩,(S1 rfl).trans ((specMid_go rfl ?_).trans (specTail_ok ?_ (ok_set ok))),(I1 rfl).trans ((implMid_go rfl rfl rfl rfl (fun _=>hz)).trans (implTail_ok ?_ (ok_set ok))),fin_tiny (len_set g)⟩
   ·show (at? h.vars B).bind _=_
    rw [at1'];simp [eqI,hz]
   ·show (at? h.vars B).bind _=_
    rw [at1',Option.bind_some,at2,Option.bind_some,at1];rfl
   ·unfold zap
    rw [cl1,cl2]
    show (at? h.next vb).bind _=_
    rw [at2,Option.bind_some,at1];rfl
 ·obtain ⟨rfl,h0,at1,w1,w2,_⟩:=FA (by decide)
  by_cases hz:va = -1
  ·refine ⟨(⟨[],[]⟩,2),(S1 rfl).trans (specMid_nul ?_),(I1 rfl).trans (implMid_nul rfl hz),by simp⟩
   show (at? h.vars A).bind _=_
   rw [at1];simp [eqI,hz]
  ·have at2:at? h.next va=some (h.next.getD va.toNat 0):=at_in (by omega)
   refine ⟨finF ⟨h.vars,h.next.set va.toNat (-1)⟩,(S1 rfl).trans ((specMid_go rfl ?_).trans (specTail_ok ?_ (ok_setn ok))),(I1 rfl).trans ((implMid_go rfl rfl rfl rfl (fun _=>hz)).trans (implTail_ok ?_ (ok_setn ok))),fin_tiny (len_setn g)⟩
   ·show (at? h.vars A).bind _=_
    rw [at1];simp [eqI,hz]
   ·show (at? h.vars A).bind _=_
    rw [at1,Option.bind_some,at2];rfl
   ·unfold zap
    rw [cl1,cl2]
    show (at? h.next va).bind _=_
    rw [at2];rfl
 ·obtain ⟨rfl,h0,at1,w1,w2,_⟩:=FA (by decide)
  obtain ⟨rfl,h0',at1',w1',w2',_⟩:=FB (by decide)
  by_cases hz:va = -1
  ·refine ⟨(⟨[],[]⟩,2),(S1 rfl).trans (specMid_nul ?_),(I1 rfl).trans (implMid_nul rfl hz),by simp⟩
   show (at? h.vars A).bind _=_
   rw [at1];simp [eqI,hz]
  ·have at2:at? h.next va=some (h.next.getD va.toNat 0):=at_in (by omega)
   have sn:spec_l8Null ⟨7,a,b⟩ h A B=some false:=by
    show (at? h.vars A).bind _=_
    rw [at1];simp [eqI,hz]
   have hfol:spec_l7Has (folL h.next vb) va=some (decide (va∈folL h.next vb)):=l7Has _ _ (small_fol ok.n vb)
   have hcon:zam (folL h.next vb) va=some (decide (va∈folL h.next vb)):=contains_int _ _ (small_fol ok.n vb)
   have im:implMid 7 a b h A va vb=cond (decide (va∈folL h.next vb)) (some ((⟨[],[]⟩:THeap),(3:Int))) (implTail ⟨7,a,b⟩ h A va vb):=by
    unfold implMid
    rw [show impl_needs 7 va vb=some (va,true) from rfl]
    simp only [Option.bind_some,cond_true,cond_false,show eqI (7:Int) 3=false from rfl,show eqI (7:Int) 8=false from rfl,show eqI (7:Int) 7=true from rfl,show eqI va (-1)=false from by simp [eqI,hz],impl_followed h ok.n vb,hcon]
   by_cases hcy:va∈folL h.next vb
   ·refine ⟨(⟨[],[]⟩,3),(S1 rfl).trans ((specMid_go rfl sn).trans (specTail_err (x:=⟨[],[]⟩) ?_ (by decide))),(I1 rfl).trans (im.trans (by simp [hcy])),by simp⟩
    show (at? h.vars B).bind _=_
    rw [at1',Option.bind_some,spec_followed h ok.n vb,Option.bind_some,at1,Option.bind_some,hfol]
    simp [hcy]
   ·refine ⟨finF ⟨h.vars,h.next.set va.toNat vb⟩,(S1 rfl).trans ((specMid_go rfl sn).trans (specTail_ok ?_ (ok_setn ok))),(I1 rfl).trans (im.trans (Eq.trans (b:=implTail ⟨7,a,b⟩ h A va vb) (by simp [hcy]) (implTail_ok ?_ (ok_setn ok)))),fin_tiny (len_setn g)⟩
    ·show (at? h.vars B).bind _=_
     rw [at1',Option.bind_some,spec_followed h ok.n vb,Option.bind_some,at1,Option.bind_some,hfol]
     simp [hcy,at2]
    ·unfold zap
     rw [cl1,cl2]
     show (at? h.next va).bind _=_
     rw [at2];rfl
 ·obtain ⟨rfl,h0,at1,w1,w2,_⟩:=FA (by decide)
  by_cases hz:va = -1
  ·refine ⟨(⟨[],[]⟩,2),(S1 rfl).trans (specMid_nul ?_),(I1 rfl).trans (implMid_nul rfl hz),by simp⟩
   show (at? h.vars A).bind _=_
   rw [at1];simp [eqI,hz]
  ·have sn:spec_l8Null ⟨8,a,b⟩ h A B=some false:=by
    show (at? h.vars A).bind _=_
    rw [at1];simp [eqI,hz]
   have hp:=positions h.vars va ok.v
   have hhas:spec_l7Has h.next va=some (decide (va∈h.next)):=l7Has _ _ ok.n
   have hcon:zam h.next va=some (decide (va∈h.next)):=contains_int _ _ ok.n
   have im:implMid 8 a b h A va vb=cond (decide (1 < ((posF va 0 h.vars).length:Int)) || decide (va∈h.next)) (some ((⟨[],[]⟩:THeap),(5:Int))) (implTail ⟨8,a,b⟩ h A va vb):=by
    unfold implMid
    rw [show impl_needs 8 va vb=some (va,true) from rfl]
    simp only [Option.bind_some,cond_true,cond_false,show eqI (8:Int) 3=false from rfl,show eqI (8:Int) 7=false from rfl,show eqI (8:Int) 8=true from rfl,show eqI va (-1)=false from by simp [eqI,hz],positions_eq,hp,hcon,ltI]
    cases decide (1 < ((posF va 0 h.vars).length:Int)) <;> cases decide (va∈h.next) <;> rfl
   have sd:spec_l8Do ⟨8,a,b⟩ h A B=(spec_l8Free h A).bind fun y=>some (y.1,y.2):=rfl
   have sf:spec_l8Free h A=cond (decide (1 < ((posF va 0 h.vars).length:Int)) || decide (va∈h.next)) (some (⟨[],[]⟩,5)) ((spec_l8Without ⟨h.vars.set A.toNat (-1),h.next⟩ va).bind fun y_20=>some (y_20,0)):=by
    unfold spec_l8Free
    rw [at1,Option.bind_some,hp,Option.bind_some,hhas]
    simp only [ltI,Option.bind_some]
    cases decide (1 < ((posF va 0 h.vars).length:Int)) <;> cases decide (va∈h.next) <;> rfl
   cases hdang:(decide (1 < ((posF va 0 h.vars).length:Int)) || decide (va∈h.next)) with
   | true =>
    rw [hdang] at im sf
    exact ⟨(⟨[],[]⟩,5),(S1 rfl).trans ((specMid_go rfl sn).trans (specTail_err (x:=⟨[],[]⟩) (by rw [sd,sf];rfl) (by decide))),(I1 rfl).trans im,by simp⟩
   | false =>
    rw [hdang] at im sf
    have hcv:∀ x∈h.vars.set A.toNat (-1),-1≤x∧x≤1000:=fun x hx=>by
     rcases List.mem_or_eq_of_mem_set hx with h | rfl
     ·have:=g.cv x h;omega
     ·omega
    have hw:=spec_without ⟨h.vars.set A.toNat (-1),h.next⟩ va (ok_set ok) (by simp;omega) hcv (fun x hx=>by have:=g.cn x hx;omega)
    have ok8:okH ⟨(h.vars.set A.toNat (-1)).map (decI va),((h.next.take va.toNat) ++ h.next.drop (va.toNat+1)).map (decI va)⟩:=⟨by have:=ok.1;simpa using this,by simp;omega⟩
    refine ⟨finF _,(S1 rfl).trans ((specMid_go rfl sn).trans (specTail_ok (by rw [sd,sf];show ((spec_l8Without _ _).bind _).bind _=_;rw [hw];rfl) ok8)),(I1 rfl).trans (im.trans (implTail_ok ?_ ok8)),fin_tiny ⟨by simp;omega,by simp;omega⟩⟩
    unfold zap
    rw [cl1,cl2]
    show (at? h.vars A).bind _=_
    rw [at1,Option.bind_some]
    unfold impl_Heap_without withoutF
    rw [if_pos ⟨by simp;rintro e;rw [e] at hv1;simp at hv1;omega,by simp;omega,by simp;omega,by omega,by simpa using w2⟩]
    rfl
 ·obtain ⟨rfl,h0,at1,w1,w2,e1⟩:=FA (by decide)
  exact T1 rfl (testB 9 va vb) (by rw [e1];rfl) rfl rfl rfl rfl rfl rfl rfl (by unfold zap;rw [cl1,cl2];rfl)
 ·obtain ⟨rfl,h0,at1,w1,w2,e1⟩:=FA (by decide)
  exact T1 rfl (testB 10 va vb) (by rw [e1];rfl) rfl rfl rfl rfl rfl rfl rfl (by unfold zap;rw [cl1,cl2];rfl)
 ·obtain ⟨rfl,h0,at1,w1,w2,e1⟩:=FA (by decide)
  obtain ⟨rfl,h0',at1',w1',w2',e2⟩:=FB (by decide)
  exact T1 rfl (testB 11 va vb) (by rw [e1,e2]) rfl rfl rfl rfl rfl rfl rfl (by unfold zap;rw [cl1,cl2];rfl)
 ·obtain ⟨rfl,h0,at1,w1,w2,e1⟩:=FA (by decide)
  obtain ⟨rfl,h0',at1',w1',w2',e2⟩:=FB (by decide)
  exact T1 rfl (testB 12 va vb) (by rw [e1,e2]) rfl rfl rfl rfl rfl rfl rfl (by unfold zap;rw [cl1,cl2];rfl)
end Go.Ev


namespace Go.Ev
open Wf (wf)
open Sm (sm lg)
def tinyS (s:TState):Prop:=s.heap.vars.length≤4∧s.heap.next.length≤7
theorem smP_of {p:TProgram} (h:sm p):smP p:=by
 refine ⟨⟨?_,fun s hs=>?_⟩,?_⟩
 ·have:=h.1.1;unfold small;omega
 ·have:=h.1.2 s hs
  have:s.size≤1048576:=this
  unfold small;omega
 ·have:=h.2.1;unfold small;omega
end Go.Ev


namespace Go.Ev
open Wf (wf)
open Sm (sm lg)
def Tot2 {α β:Type} (o:Option α) (o':Option β) (Q:α→β→Prop):Prop:=∃ a b,o=some a∧o'=some b∧Q a b
theorem Tot2.ret {α β:Type} {a:α} {b:β} {Q:α→β→Prop} (h:Q a b):Tot2 (some a) (some b) Q:=⟨a,b,rfl,rfl,h⟩
theorem Tot2.loop {σ τ ρ ρ':Type} {st1:σ→Option (σ ⊕ ρ)} {st2:τ→Option (τ ⊕ ρ')} {Q:ρ→ρ'→Prop} (I:Nat→σ→τ→Prop) (n:Nat) {s:σ} {t:τ} (h0:I 0 s t)
 (h:∀ i s t,I i s t→i≤n→Tot2 (st1 s) (st2 t) (fun o o'=>(∃ s' t',o=.inl s'∧o'=.inl t'∧i < n∧I (i+1) s' t')∨∃ r r',o=.inr r∧o'=.inr r'∧Q r r')):Tot2 (iter st1 s) (iter st2 t) Q:=by
 have key:∀ (k i:Nat) (s:σ) (t:τ),I i s t→i+k=n→Tot2 (iter st1 s) (iter st2 t) Q:=by
  intro k
  induction k with
  | zero =>
   intro i s t hI hk
   obtain ⟨o,o',ho,ho',hq⟩:=h i s t hI (by omega)
   rcases hq with ⟨s',t',_,_,hlt,_⟩|⟨r,r',rfl,rfl,hq⟩
   ·omega
   ·exact ⟨r,r',iter_inr ho,iter_inr ho',hq⟩
  | succ k ih =>
   intro i s t hI hk
   obtain ⟨o,o',ho,ho',hq⟩:=h i s t hI (by omega)
   rcases hq with ⟨s',t',rfl,rfl,hlt,hI'⟩|⟨r,r',rfl,rfl,hq⟩
   ·rw [iter_inl ho,iter_inl ho']
    exact ih (i+1) s' t' hI' (by omega)
   ·exact ⟨r,r',iter_inr ho,iter_inr ho',hq⟩
 exact key n 0 s t h0 (by omega)

theorem same_ints {a b:List Int} (h:a.length≤9223372036854775806):spec_l7Same a b=some (decide (a=b)):=by
 refine eqRow h (fun i x y hi hx hy=>?_) ?_ (by unfold spec_l7Same;rfl)
 ·simp only [zaq,cond_ne,at_nat,hx,hy,Option.bind_some,Int.ofNat_lt,hi,if_true]
  by_cases he:x=y <;> simp [he]
 ·simp [zaq]
theorem equal_ints {a b:List Int} (h:a.length≤9223372036854775806):slices_Equal_int a b=some (decide (a=b)):=by
 refine eqRow h (fun i x y hi hx hy=>?_) ?_ (by unfold slices_Equal_int;rfl)
 ·simp only [zaq,cond_ne,at_nat,hx,hy,Option.bind_some,Int.ofNat_lt,hi,if_true]
  by_cases he:x=y <;> simp [he]
 ·simp [zaq]
theorem spec_eqState {a b:TState} (h:tinyS a):spec_EqualState a b=some (decide (a=b)):=by
 unfold spec_EqualState spec_EqualHeap
 have h1:=h.1
 have h2:=h.2
 rw [same_ints (by omega),same_ints (by omega)]
 rcases a with ⟨a0,a1,a2⟩
 rcases b with ⟨b0,b1,b2⟩
 simp only [Option.bind_some,cond_dec,cond_eq,TState.mk.injEq,THeap.mk.injEq]
 by_cases h0:a0=b0 <;> by_cases h1:a1=b1 <;> by_cases h2:a2=b2 <;> simp [h0,h1,h2]
theorem impl_eqState {a b:TState} (h:tinyS a):impl_EqualState a b=some (decide (a=b)):=by
 unfold impl_EqualState impl_EqualHeap
 have h1:=h.1
 have h2:=h.2
 rw [equal_ints (by omega),equal_ints (by omega)]
 rcases a with ⟨a0,a1,a2⟩
 rcases b with ⟨b0,b1,b2⟩
 simp only [Option.bind_some,cond_dec,cond_eq,TState.mk.injEq,THeap.mk.injEq]
 by_cases h0:a0=b0 <;> by_cases h1:a1=b1 <;> by_cases h2:a2=b2 <;> simp [h0,h1,h2]

def putS (l:List TState) (s:TState):List TState:=if s∈l then l else l ++ [s]
def putM (l:List TMetState) (m:TMetState):List TMetState:=if m.state∈l.map (·.state) then l else l ++ [m]
theorem putM_map (l:List TMetState) (m:TMetState):(putM l m).map (·.state)=putS (l.map (·.state)) m.state:=by
 unfold putM putS
 split <;> simp
theorem putM_len (l:List TMetState) (m:TMetState):l.length≤(putM l m).length∧(putM l m).length≤l.length+1:=by
 unfold putM
 split <;> simp
theorem putM_all {P:TMetState→Prop} {l:List TMetState} {m:TMetState} (h:∀ x∈l,P x) (hm:P m):∀ x∈putM l m,P x:=by
 unfold putM
 split
 ·exact h
 ·intro x hx
  rcases List.mem_append.1 hx with hx | hx
  ·exact h x hx
  ·rw [List.mem_singleton.1 hx];exact hm
theorem anyE {α ρ:Type} (p:α→Bool) (rf rt:ρ):∀ (xs:List α) (i:Nat),foldE (β:=Unit) (fun _ _ x=>if p x then some (.inr rf) else some (.inl ())) (fun _=>some rt) () i xs=some (if xs.any p then rf else rt)
 | [],i=>by simp [foldE]
 | x :: xs,i=>by
  rw [foldE]
  cases hp:p x with
  | true=>simp [hp]
  | false=>simp only [hp,Bool.false_eq_true,if_false];rw [anyE p rf rt xs (i+1)];simp [hp]
theorem tiny_ok {s:TState} (h:tinyS s):okH s.heap:=⟨by have:=h.1;omega,by have:=h.2;omega⟩
theorem spec_put {l:List TState} {s:TState} (hl:l.length≤2000000) (ht:∀ x∈l,tinyS x) (hs:tinyS s):spec_l9Put l s=some (putS l s):=by
 unfold spec_l9Put
 rw [iter_list l (fun (_:Unit) i=>i) (fun _ i x=>if decide (x=s) then some (.inr (.inl l)) else some (.inl ())) (fun _=>some (.inr ())) (fun b i x hx=>?_) (fun b=>?_) (),anyE (fun x=>decide (x=s))]
 ·have hmem:(l.any fun x=>decide (x=s))=decide (s∈l):=by
   rw [Bool.eq_iff_iff,List.any_eq_true,decide_eq_true_eq]
   constructor
   ·rintro ⟨x,hx,he⟩
    rw [decide_eq_true_eq] at he
    rw [← he];exact hx
   ·exact fun h=>⟨s,h,by simp⟩
  rw [hmem]
  unfold putS
  by_cases hm:s∈l
  ·simp [hm]
  ·simp only [hm,decide_false,Bool.false_eq_true,if_false,Option.bind_some,Sum.elim_inr]
   rw [spec_copy s.heap (tiny_ok hs)]
   simp only [Option.bind_some]
   rw [room_small (by simp;omega) (by omega)]
   rfl
 ·have hlt:=(List.getElem?_eq_some_iff.1 hx).1
  simp only [at_nat,hx,Option.bind_some,zaq,spec_eqState (ht x (List.mem_of_getElem? hx)),cond_dec]
  rw [if_pos (by omega),addI_eq (by omega) (by omega)]
  by_cases he:x=s <;> simp [he]
 ·simp [zaq]
theorem impl_put {l:List TMetState} {s:TState} {f e:Int} (hl:l.length≤2000000) (ht:∀ x∈l,tinyS x.state):impl_explore_2 s f e l=some (putM l ⟨s,f,e⟩):=by
 unfold impl_explore_2 slices_ContainsFunc_metState slices_IndexFunc_metState
 rw [indexF l (fun x0=>impl_explore_2_1 x0 s) (fun x=>decide (x.state=s)) (fun x hx=>by unfold impl_explore_2_1;rw [impl_eqState (ht x hx)];rfl) (by unfold small;omega)]
 have hc:=containsF_of l (fun x:TMetState=>decide (x.state=s))
 have hm:(l.any fun x=>decide (x.state=s))=decide (s∈l.map (·.state)):=by
  rw [Bool.eq_iff_iff,List.any_eq_true,decide_eq_true_eq,List.mem_map]
  constructor
  ·rintro ⟨x,hx,he⟩
   exact ⟨x,hx,by simpa using he⟩
  ·rintro ⟨x,hx,he⟩
   exact ⟨x,hx,by simpa using he⟩
 rw [hm] at hc
 have key:∀ z:Int,leI 0 z=decide (s∈l.map (·.state))→((cond (leI 0 z) (some l) ((room (l.length + [(⟨s,f,e⟩:TMetState)].length) 72).bind fun _=>some (l ++ [(⟨s,f,e⟩:TMetState)]))):Option (List TMetState))=some (putM l ⟨s,f,e⟩):=fun z hz=>by
  rw [hz,cond_dec,room_small (by simp;omega) (by omega)]
  unfold putM
  by_cases hq:s∈l.map (·.state)
  ·rw [if_pos hq,if_pos hq]
  ·rw [if_neg hq,if_neg hq];rfl
 generalize l.findIdx? (fun x:TMetState=>decide (x.state=s))=o at hc ⊢
 cases o with
 | none=>exact key _ hc
 | some j=>exact key _ hc
theorem edges_same:impl_EdgesFrom=spec_EdgesFrom:=rfl
theorem edges_ok (p:TProgram) (hp:p.edges.length≤100) (pt:Int):∃ r,spec_EdgesFrom p pt=some r∧r.length≤p.edges.length∧∀ e∈r,0≤e∧e < (p.edges.length:Int):=by
 unfold spec_EdgesFrom
 refine Tot.bind (P:=fun r:List Int=>r.length≤p.edges.length∧∀ e∈r,0≤e∧e < (p.edges.length:Int)) ?_ fun r hr=>Tot.ret hr
 refine Tot.loop (fun i (s:List Int × Int)=>s.2=(i:Int)∧s.1.length≤i∧∀ e∈s.1,0≤e∧e < (p.edges.length:Int)) p.edges.length ⟨rfl,by simp,by simp⟩ fun i s hI hi=>?_
 obtain ⟨l,j⟩:=s
 obtain ⟨h1,h2,h3⟩:=hI
 simp only at h1 h2 h3
 subst h1
 rw [zaq]
 by_cases hlt:(i:Int) < (p.edges.length:Int)
 ·rw [if_pos hlt]
  have hx:at? p.edges (i:Int)=some p.edges[i]:=by rw [at_nat];exact List.getElem?_eq_getElem (by omega)
  simp only [hx,Option.bind_some,cond_eq]
  rw [addI_eq (by omega) (by omega)]
  split
  ·rw [room_small (by simp;omega) (by omega)]
   refine Tot.ret ⟨by omega,rfl,by simp only [List.length_append,List.length_singleton];omega,fun e he=>?_⟩
   rcases List.mem_append.1 he with he | he
   ·exact h3 e he
   ·rw [List.mem_singleton.1 he];omega
  ·exact Tot.ret ⟨by omega,rfl,by show l.length≤i+1;omega,h3⟩
 ·rw [if_neg hlt]
  exact Tot.ret ⟨by show l.length≤_;omega,h3⟩
end Go.Ev


namespace Go.Ev
open Wf (wf)
open Sm (sm lg)
theorem pr_edges {p:TProgram} (h:prB p=true):p.edges.length≤24:=by
 unfold prB at h
 simp only [Bool.and_eq_true,decide_eq_true_eq] at h
 omega
theorem tiny_start {p:TProgram} {h:THeap} (hh:isHeapB (p.vars.length:Int) h=true):tinyS ⟨0,h⟩:=by
 have g:=good_of hh
 have h1:=g.v1
 have h2:=g.v2
 have h3:=g.n1
 exact ⟨by show h.vars.length≤4;omega,by show h.next.length≤7;omega⟩
structure Sims (l:List TState) (m:List TMetState) (n:Nat):Prop where
 eq:l=m.map (·.state)
 len:m.length≤n
 tiny:∀ x∈m,tinyS x.state
theorem Sims.lt {l:List TState} {m:List TMetState} {n:Nat} (h:Sims l m n):∀ x∈l,tinyS x:=fun x hx=>by
 rw [h.eq,List.mem_map] at hx
 obtain ⟨y,hy,rfl⟩:=hx
 exact h.tiny y hy
theorem Sims.ll {l:List TState} {m:List TMetState} {n:Nat} (h:Sims l m n):l.length=m.length:=by rw [h.eq,List.length_map]
theorem Sims.put {l:List TState} {m:List TMetState} {n:Nat} (h:Sims l m n) {s:TState} (hs:tinyS s) (f e:Int):Sims (putS l s) (putM m ⟨s,f,e⟩) (n+1) :=
 ⟨by rw [putM_map,h.eq],by have:=(putM_len m ⟨s,f,e⟩).2;have:=h.len;omega,putM_all h.tiny hs⟩
theorem Sims.mono {l:List TState} {m:List TMetState} {n k:Nat} (h:Sims l m n) (hk:n≤k):Sims l m k:=⟨h.eq,Nat.le_trans h.len hk,h.tiny⟩

theorem start_bad (p:TProgram) (start:List THeap) (hs:start.length≤1048576) (hg:¬ ∀ h∈start,isHeapB (p.vars.length:Int) h=true) :
 iter (ρ:=(Unit) ⊕ ((List TState))) (fun s_5:(List TState) × Int =>
  cond (ltI s_5.2 (start.length:Int))
   ((at? start s_5.2).bind fun e_17 =>
    (spec_IsHeap (p.vars.length:Int) e_17).bind fun y_22 =>
     cond y_22
      ((at? start s_5.2).bind fun _ =>
       (spec_l9Put s_5.1 (⟨0,e_17⟩:TState)).bind fun y_33 =>
        some (.inl (y_33,addI s_5.2 1)))
      (some (.inr (.inl ()))))
   (some (.inr (.inr s_5.1)))) ([],0)=some (.inl ()):=by
 refine Tot.eq (Tot.loop (fun i (s:(List TState) × Int)=>s.2=(i:Int)∧s.1.length≤i∧(∀ x∈s.1,tinyS x)∧∀ j h,j < i→start[j]?=some h→isHeapB (p.vars.length:Int) h=true) start.length ⟨rfl,by simp,by simp,fun j h hj=>by omega⟩ fun i s hI hi=>?_)
 obtain ⟨l,j⟩:=s
 obtain ⟨h1,h2,h3,h4⟩:=hI
 simp only at h1 h2 h3
 subst h1
 simp only [zaq]
 by_cases hlt:(i:Int) < (start.length:Int)
 ·rw [if_pos hlt]
  have hi2:i < start.length:=by omega
  have hx:at? start (i:Int)=some start[i]:=by rw [at_nat];exact List.getElem?_eq_getElem hi2
  simp only [hx,Option.bind_some,spec_isHeap]
  cases hq:isHeapB (p.vars.length:Int) start[i] with
  | false=>exact Tot.ret rfl
  | true =>
   have ht:=tiny_start hq
   simp only [cond_true,spec_put (l:=l) (by omega) h3 ht,Option.bind_some]
   rw [addI_eq (by omega) (by omega)]
   refine Tot.ret ⟨hi2,rfl,?_,?_,fun j h hj hh=>?_⟩
   ·show (putS l _).length≤i+1
    unfold putS
    split
    ·omega
    ·simp;omega
   ·intro x hx
    have hx:x∈putS l ⟨0,start[i]⟩:=hx
    unfold putS at hx
    split at hx
    ·exact h3 x hx
    ·rcases List.mem_append.1 hx with hx | hx
     ·exact h3 x hx
     ·rw [List.mem_singleton.1 hx];exact ht
   ·rcases Nat.lt_or_ge j i with hj2 | hj2
    ·exact h4 j h hj2 hh
    ·have:j=i:=by omega
     subst this
     rw [List.getElem?_eq_getElem hi2] at hh
     cases hh
     exact hq
 ·exfalso
  refine hg fun h hh=>?_
  obtain ⟨j,hj,he⟩:=List.mem_iff_getElem.1 hh
  exact h4 j h (by omega) (by rw [List.getElem?_eq_getElem hj,he])

end Go.Ev


namespace Go.Ev
open Wf (wf)
open Sm (sm lg)
def exF (p:TProgram) (e:Int) (h:THeap):THeap × Int:=(spec_Exec p.vars (p.edges.getD e.toNat zE).stmt h).getD (⟨[],[]⟩,7)
def edF (p:TProgram) (pt:Int):List Int:=(spec_EdgesFrom p pt).getD []
def hit (p:TProgram) (h:THeap) (e:Int):Option TState:=if (exF p e h).2=0 then some ⟨(p.edges.getD e.toNat zE).to_,(exF p e h).1⟩ else none
def First (p:TProgram) (m:List TMetState) (j:Nat) (x:TMetState):Prop :=
 ∃ (k:Nat) (y:TMetState),x.from_=(k:Int)∧k < j∧m[k]?=some y ∧
  (∃ es1 es2,edF p y.state.point=es1 ++ x.edge :: es2∧hit p y.state.heap x.edge=some x.state∧∀ e∈es1,hit p y.state.heap e≠some x.state) ∧
  ∀ (k':Nat) (z:TMetState),k' < k→m[k']?=some z→∀ e∈edF p z.state.point,hit p z.state.heap e≠some x.state
theorem First.app {p:TProgram} {m t:List TMetState} {j:Nat} {x:TMetState} (h:First p m j x) (hj:j≤m.length):First p (m ++ t) j x:=by
 obtain ⟨k,y,h1,h2,h3,h4,h5⟩:=h
 refine ⟨k,y,h1,h2,by rw [List.getElem?_append_left (by omega)];exact h3,h4,fun k' z hk hz=>h5 k' z hk ?_⟩
 rw [List.getElem?_append_left (by omega)] at hz
 exact hz
structure Simc (p:TProgram) (c:Nat) (l:List TState) (m:List TMetState) (n:Nat):Prop where
 sims:Sims l m n
 nd:(m.map (·.state)).Nodup
 root:∀ j x,m[j]?=some x→j < c→x.from_ = -1
 hit:∀ j x,m[j]?=some x→c≤j→First p m j x
theorem Simc.mono {p:TProgram} {c:Nat} {l:List TState} {m:List TMetState} {n k:Nat} (h:Simc p c l m n) (hk:n≤k):Simc p c l m k:=⟨h.sims.mono hk,h.nd,h.root,h.hit⟩
theorem Simc.fix {p:TProgram} {c:Nat} {l:List TState} {m:List TMetState} {n:Nat} (h:Simc p c l m n) (hc:m.length≤c):Simc p m.length l m n :=
 ⟨h.sims,h.nd,fun j x hx hj=>h.root j x hx (by omega),fun j x hx hj=>by have:=(List.getElem?_eq_some_iff.1 hx).1;omega⟩
theorem putM_app (l:List TMetState) (m:TMetState):∃ t,putM l m=l ++ t:=by
 unfold putM
 split
 ·exact ⟨[],by simp⟩
 ·exact ⟨[m],rfl⟩
theorem putM_in (l:List TMetState) (m:TMetState):m.state∈(putM l m).map (·.state):=by
 unfold putM
 split
 ·assumption
 ·simp
theorem Simc.put {p:TProgram} {c:Nat} {l:List TState} {m:List TMetState} {n:Nat} (h:Simc p c l m n) {s:TState} (hs:tinyS s) (f e:Int)
 (hr:s ∉ m.map (·.state)→(m.length < c→f = -1)∧(c≤m.length→First p m m.length ⟨s,f,e⟩)):Simc p c (putS l s) (putM m ⟨s,f,e⟩) (n+1):=by
 refine ⟨h.sims.put hs f e,?_,?_,?_⟩
 ·unfold putM
  split
  ·exact h.nd
  ·rename_i hn
   rw [List.map_append,List.nodup_append]
   refine ⟨h.nd,by simp,fun a ha b hb=>?_⟩
   simp only [List.map_cons,List.map_nil,List.mem_singleton] at hb
   rintro rfl
   exact hn (hb ▸ ha)
 ·intro j x hx hj
  unfold putM at hx
  split at hx
  ·exact h.root j x hx hj
  ·rename_i hn
   rcases Nat.lt_or_ge j m.length with hlt | hge
   ·rw [List.getElem?_append_left hlt] at hx
    exact h.root j x hx hj
   ·have hl:=(List.getElem?_eq_some_iff.1 hx).1
    have:j=m.length:=by simp at hl;omega
    subst this
    rw [List.getElem?_append_right (Nat.le_refl _)] at hx
    simp at hx
    subst hx
    exact (hr hn).1 hj
 ·intro j x hx hj
  unfold putM at hx ⊢
  split at hx
  ·rename_i hn
   rw [if_pos hn]
   exact h.hit j x hx hj
  ·rename_i hn
   rw [if_neg hn]
   rcases Nat.lt_or_ge j m.length with hlt | hge
   ·rw [List.getElem?_append_left hlt] at hx
    exact (h.hit j x hx hj).app (by omega)
   ·have hl:=(List.getElem?_eq_some_iff.1 hx).1
    have:j=m.length:=by simp at hl;omega
    subst this
    rw [List.getElem?_append_right (Nat.le_refl _)] at hx
    simp at hx
    subst hx
    exact ((hr hn).2 hj).app (Nat.le_refl _)
def startL (start:List THeap):List TState:=start.foldl (fun a h=>putS a ⟨0,h⟩) []
theorem startL_snoc (start:List THeap) (i:Nat) (hi:i < start.length):startL (start.take (i+1))=putS (startL (start.take i)) ⟨0,start[i]⟩:=by
 unfold startL
 rw [take_snoc1 hi,List.foldl_append]
 rfl

theorem start_c (p:TProgram) (start:List THeap) (hs:start.length≤1048576) (hg:∀ h∈start,isHeapB (p.vars.length:Int) h=true) :
 Tot2 (iter (ρ:=(Unit) ⊕ ((List TState))) (fun s_5:(List TState) × Int =>
  cond (ltI s_5.2 (start.length:Int))
   ((at? start s_5.2).bind fun e_17 =>
    (spec_IsHeap (p.vars.length:Int) e_17).bind fun y_22 =>
     cond y_22
      ((at? start s_5.2).bind fun _ =>
       (spec_l9Put s_5.1 (⟨0,e_17⟩:TState)).bind fun y_33 =>
        some (.inl (y_33,addI s_5.2 1)))
      (some (.inr (.inl ()))))
   (some (.inr (.inr s_5.1)))) ([],0))
  (iter (ρ:=(List TMetState)) (fun s_8:Int × (List TMetState) =>
   cond (ltI s_8.1 (start.length:Int))
    ((at? start s_8.1).bind fun e_24 =>
     (impl_Heap_own e_24).bind fun y_30 =>
      (impl_explore_2 (⟨0,y_30⟩:TState) (-1) (-1) s_8.2).bind fun y_35 =>
       some (.inl (addI s_8.1 1,y_35)))
    (some (.inr s_8.2))) (0,[])) (fun r r'=>∃ l,r=.inr l∧Simc p (startL start).length l r' 1048576∧(startL start).length≤r'.length):=by
 refine Tot2.loop (fun i (s:(List TState) × Int) (t:Int × (List TMetState))=>s.2=(i:Int)∧t.1=(i:Int)∧Simc p 1048577 s.1 t.2 i∧s.1=startL (start.take i)) start.length ⟨rfl,rfl,⟨⟨rfl,Nat.zero_le _,by simp⟩,by simp,by simp,by simp⟩,rfl⟩ fun i s t hI hi=>?_
 obtain ⟨l,j⟩:=s
 obtain ⟨j',m⟩:=t
 obtain ⟨h1,h2,h3,h6⟩:=hI
 simp only at h1 h2 h3 h6
 subst h1
 subst h2
 simp only [zaq]
 have h4:=h3.sims.len
 have h5:=h3.sims.ll
 by_cases hlt:(i:Int) < (start.length:Int)
 ·rw [if_pos hlt,if_pos hlt]
  have hi2:i < start.length:=by omega
  have hx:at? start (i:Int)=some start[i]:=by rw [at_nat];exact List.getElem?_eq_getElem hi2
  have hq:=hg _ (List.getElem_mem hi2)
  have g:=good_of hq
  have ht:=tiny_start hq
  simp only [hx,Option.bind_some,spec_isHeap,hq,cond_true,impl_own _ g.ok.v g.ok.n,spec_put (l:=l) (by omega) h3.sims.lt ht,impl_put (l:=m) (by omega) h3.sims.tiny]
  rw [addI_eq (by omega) (by omega)]
  refine Tot2.ret (.inl ⟨_,_,rfl,rfl,hi2,rfl,rfl,h3.put ht _ _ fun _=>⟨fun _=>rfl,fun hc=>by omega⟩,?_⟩)
  show putS l _=_
  rw [startL_snoc start i hi2,← h6]
 ·rw [if_neg hlt,if_neg hlt]
  rw [List.take_of_length_le (by omega)] at h6
  subst h6
  have hf:=(h3.fix (by omega)).mono (k:=1048576) (by omega)
  rw [← h5] at hf
  exact Tot2.ret (.inr ⟨_,_,rfl,rfl,_,rfl,hf,by show (startL start).length≤m.length;omega⟩)
def Done (p:TProgram) (i:Nat) (m:List TMetState):Prop:=∀ (k':Nat) (z:TMetState),k' < i→m[k']?=some z→∀ e∈edF p z.state.point,∀ t,hit p z.state.heap e=some t→t∈m.map (·.state)
theorem Done.app {p:TProgram} {i:Nat} {m t:List TMetState} (h:Done p i m) (hi:i≤m.length):Done p i (m ++ t):=fun k' z hk hz e he s hs=>by
 rw [List.getElem?_append_left (by omega)] at hz
 rw [List.map_append]
 exact List.mem_append_left _ (h k' z hk hz e he s hs)
theorem round_c (p:TProgram) (hn:smN p.vars) (c k:Nat) (y:TMetState) (es:List Int) (hed:edF p y.state.point=es) (hes:es.length≤24) (hin:∀ e∈es,0≤e∧e < (p.edges.length:Int)) (l:List TState) (m:List TMetState) (hR:Simc p c l m 200) (hk:m[k]?=some y) (hc:c≤m.length) (hd:Done p k m) :
 Tot2 (iter (ρ:=(List TState)) (fun s_68:(List TState) × Int =>
           cond (ltI s_68.2 (es.length:Int))
            ((at? es s_68.2).bind fun e_81 =>
             (at? p.edges e_81).bind fun e_86 =>
              (at? s_68.1 (k:Int)).bind fun e_92 =>
               (spec_Exec p.vars e_86.stmt e_92.heap).bind fun y_97 =>
                cond (eqI y_97.2 0)
                 ((spec_l9Put s_68.1 (⟨e_86.to_,y_97.1⟩:TState)).bind fun y_104 =>
                  some (.inl (y_104,addI s_68.2 1)))
                 (some (.inl (s_68.1,addI s_68.2 1))))
            (some (.inr s_68.1))) (l,0))
 (iter (ρ:=(List TMetState)) (fun s_70:Int × (List TMetState) =>
           cond (ltI s_70.1 (es.length:Int))
            ((at? es s_70.1).bind fun e_87 =>
             (at? p.edges e_87).bind fun e_92 =>
              (at? s_70.2 (k:Int)).bind fun e_97 =>
               (impl_Exec p.vars e_92.stmt e_97.state.heap).bind fun y_102 =>
                cond (eqI y_102.2 0)
                 ((at? p.edges e_87).bind fun _ =>
                  (impl_explore_2 (⟨e_92.to_,y_102.1⟩:TState) (k:Int) e_87 s_70.2).bind fun y_114 =>
                   some (.inl (addI s_70.1 1,y_114)))
                 (some (.inl (addI s_70.1 1,s_70.2))))
            (some (.inr s_70.2))) (0,m)) (fun r r'=>Simc p c r r' 1048576∧c≤r'.length∧Done p (k+1) r'):=by
 have hkl:=(List.getElem?_eq_some_iff.1 hk).1
 refine Tot2.loop (fun i (s:(List TState) × Int) (t:Int × (List TMetState))=>s.2=(i:Int)∧t.1=(i:Int)∧Simc p c s.1 t.2 (200+i)∧(∃ a,t.2=m ++ a)∧∀ e∈es.take i,∀ t',hit p y.state.heap e=some t'→t'∈t.2.map (·.state)) es.length ⟨rfl,rfl,hR,⟨[],by simp⟩,by simp⟩ fun i s t hI hi=>?_
 obtain ⟨l,j⟩:=s
 obtain ⟨j',m'⟩:=t
 obtain ⟨h1,h2,h3,⟨a,h6⟩,h7⟩:=hI
 simp only at h1 h2 h3 h6 h7
 subst h1
 subst h2
 have hd':Done p k m':=by rw [h6];exact hd.app (by omega)
 have hk':m'[k]?=some y:=by rw [h6,List.getElem?_append_left hkl];exact hk
 have hl':m.length≤m'.length:=by rw [h6];simp
 simp only [zaq]
 by_cases hlt:(i:Int) < (es.length:Int)
 ·rw [if_pos hlt,if_pos hlt]
  have hi2:i < es.length:=by omega
  have hx:at? es (i:Int)=some es[i]:=by rw [at_nat];exact List.getElem?_eq_getElem hi2
  have he:=hin _ (List.getElem_mem hi2)
  have hy:at? p.edges es[i]=some (p.edges.getD es[i].toNat zE):=at_in' he zE
  have h4:=h3.sims.len
  have h5:=h3.sims.ll
  have hz:at? m' (k:Int)=some y:=by rw [at_nat];exact hk'
  have hz2:at? l (k:Int)=some y.state:=by rw [at_nat,h3.sims.eq,List.getElem?_map,hk'];rfl
  obtain ⟨r,hr⟩:=exec_both p.vars (p.edges.getD es[i].toNat zE).stmt y.state.heap hn
  have hex:exF p es[i] y.state.heap=r:=by unfold exF;rw [hr.spec];rfl
  simp only [hx,hy,hz,hz2,Option.bind_some,hr.spec,hr.impl,cond_eq]
  rw [addI_eq (by omega) (by omega)]
  by_cases hc0:r.2=0
  ·have ht:tinyS ⟨(p.edges.getD es[i].toNat zE).to_,r.1⟩:=hr.tiny
   have hh:hit p y.state.heap es[i]=some ⟨(p.edges.getD es[i].toNat zE).to_,r.1⟩:=by unfold hit;rw [hex,if_pos hc0]
   rw [if_pos hc0,if_pos hc0,spec_put (l:=l) (by omega) h3.sims.lt ht,impl_put (l:=m') (by omega) h3.sims.tiny]
   simp only [Option.bind_some]
   obtain ⟨b,hb⟩:=putM_app m' ⟨⟨(p.edges.getD es[i].toNat zE).to_,r.1⟩,(k:Int),es[i]⟩
   refine Tot2.ret (.inl ⟨_,_,rfl,rfl,hi2,rfl,rfl,h3.put ht _ _ fun hnew=>⟨fun hcc=>by omega,fun _=>⟨k,y,rfl,by omega,hk',⟨es.take i,es.drop (i+1),?_,hh,fun e he2 h8=>hnew (h7 e he2 _ h8)⟩,fun k2 z hk2 hz3 e he2 h8=>hnew (hd' k2 z hk2 hz3 e he2 _ h8)⟩⟩,?_,?_⟩)
   ·rw [hed,← List.drop_eq_getElem_cons hi2,List.take_append_drop]
   ·exact ⟨a ++ b,by show putM m' _=_;rw [hb,h6,List.append_assoc]⟩
   ·intro e he2 t' ht'
    rw [take_snoc1 hi2] at he2
    rcases List.mem_append.1 he2 with he2 | he2
    ·show t'∈(putM m' _).map _
     rw [hb,List.map_append]
     exact List.mem_append_left _ (h7 e he2 t' ht')
    ·rw [List.mem_singleton.1 he2,hh] at ht'
     cases ht'
     exact putM_in m' ⟨⟨(p.edges.getD es[i].toNat zE).to_,r.1⟩,(k:Int),es[i]⟩
  ·rw [if_neg hc0,if_neg hc0]
   refine Tot2.ret (.inl ⟨_,_,rfl,rfl,hi2,rfl,rfl,h3.mono (by omega),⟨a,h6⟩,fun e he2 t' ht'=>?_⟩)
   rw [take_snoc1 hi2] at he2
   rcases List.mem_append.1 he2 with he2 | he2
   ·exact h7 e he2 t' ht'
   ·rw [List.mem_singleton.1 he2] at ht'
    unfold hit at ht'
    rw [hex,if_neg hc0] at ht'
    cases ht'
 ·rw [if_neg hlt,if_neg hlt]
  refine Tot2.ret (.inr ⟨_,_,rfl,rfl,h3.mono (by omega),Nat.le_trans hc hl',fun k2 z hk2 hz e he t' ht'=>?_⟩)
  rcases Nat.lt_or_ge k2 k with hk3 | hk3
  ·exact hd' k2 z hk3 hz e he t' ht'
  ·have:k2=k:=by omega
   subst this
   have hz:m'[k2]?=some z:=hz
   rw [hk'] at hz
   cases hz
   rw [hed] at he
   exact h7 e (by rw [List.take_of_length_le (by omega)];exact he) t' ht'
theorem explore_c (p:TProgram) (start:List THeap) (hp:smP p) (hs:start.length≤1048576) :
 ∃ r:List TMetState × Bool,impl_explore p start=some r∧spec_StatesFrom p start=some (if r.2 then r.1.map (·.state) else [],r.2)∧(r.2=true→prB p=true∧r.1.length≤200∧Simc p (startL start).length (r.1.map (·.state)) r.1 1048576∧∀ h∈start,isHeapB (p.vars.length:Int) h=true):=by
 unfold impl_explore spec_StatesFrom
 rw [spec_isProgram p hp,impl_isProgram p hp]
 cases hpr:prB p with
 | false=>exact ⟨_,rfl,rfl,by simp⟩
 | true =>
 have hed:=pr_edges hpr
 have hany:slices_ContainsFunc_Heap start (fun x0=>impl_explore_1 x0 p)=some (start.any fun h=>!isHeapB (p.vars.length:Int) h):=by
  unfold slices_ContainsFunc_Heap slices_IndexFunc_Heap
  rw [indexF start (fun x0=>impl_explore_1 x0 p) (fun h=>!isHeapB (p.vars.length:Int) h) (fun x hx=>by unfold impl_explore_1;rw [impl_isHeap];simp [notB]) (by unfold small;omega),← containsF_of]
  generalize start.findIdx? _=o
  cases o <;> rfl
 simp only [Option.bind_some,cond_true,hany]
 by_cases hg:∀ h∈start,isHeapB (p.vars.length:Int) h=true
 ·have hf:(start.any fun h=>!isHeapB (p.vars.length:Int) h)=false:=by
   rw [List.any_eq_false]
   intro h hh
   simp [hg h hh]
  rw [hf]
  simp only [cond_false]
  obtain ⟨a,m0,e1,e2,l0,rfl,hR,hc0⟩:=start_c p start hs hg
  rw [e1,e2]
  simp only [Option.bind_some,Sum.elim_inr]
  have hout:Tot2 (iter (ρ:=(List TState)) (fun s_48:(List TState) × Int =>
   cond (ltI s_48.2 (s_48.1.length:Int))
    (cond (leI (s_48.1.length:Int) 200)
     ((at? s_48.1 s_48.2).bind fun e_60 =>
      (spec_EdgesFrom p e_60.point).bind fun y_65 =>
       (iter (ρ:=(List TState)) (fun s_68:(List TState) × Int =>
        cond (ltI s_68.2 (y_65.length:Int))
         ((at? y_65 s_68.2).bind fun e_81 =>
          (at? p.edges e_81).bind fun e_86 =>
           (at? s_68.1 s_48.2).bind fun e_92 =>
            (spec_Exec p.vars e_86.stmt e_92.heap).bind fun y_97 =>
             cond (eqI y_97.2 0)
              ((spec_l9Put s_68.1 (⟨e_86.to_,y_97.1⟩:TState)).bind fun y_104 =>
               some (.inl (y_104,addI s_68.2 1)))
              (some (.inl (s_68.1,addI s_68.2 1))))
         (some (.inr s_68.1))) (s_48.1,0)).bind fun r_107 =>
        some (.inl (r_107,addI s_48.2 1)))
     (some (.inr s_48.1)))
    (some (.inr s_48.1))) (l0,0))
   (iter (ρ:=(List TMetState)) (fun s_47:Int × (List TMetState) =>
    cond (ltI s_47.1 (s_47.2.length:Int))
     (cond (leI (s_47.2.length:Int) 200)
      ((at? s_47.2 s_47.1).bind fun e_62 =>
       (impl_EdgesFrom p e_62.state.point).bind fun y_67 =>
        (iter (ρ:=(List TMetState)) (fun s_70:Int × (List TMetState) =>
         cond (ltI s_70.1 (y_67.length:Int))
          ((at? y_67 s_70.1).bind fun e_87 =>
           (at? p.edges e_87).bind fun e_92 =>
            (at? s_70.2 s_47.1).bind fun e_97 =>
             (impl_Exec p.vars e_92.stmt e_97.state.heap).bind fun y_102 =>
              cond (eqI y_102.2 0)
               ((at? p.edges e_87).bind fun _ =>
                (impl_explore_2 (⟨e_92.to_,y_102.1⟩:TState) s_47.1 e_87 s_70.2).bind fun y_114 =>
                 some (.inl (addI s_70.1 1,y_114)))
               (some (.inl (addI s_70.1 1,s_70.2))))
          (some (.inr s_70.2))) (0,s_47.2)).bind fun r_116 =>
         some (.inl (addI s_47.1 1,r_116)))
      (some (.inr s_47.2)))
     (some (.inr s_47.2))) (0,m0)) (fun r r'=>Simc p (startL start).length r r' 1048576):=by
   refine Tot2.loop (fun i (s:(List TState) × Int) (t:Int × (List TMetState))=>s.2=(i:Int)∧t.1=(i:Int)∧Simc p (startL start).length s.1 t.2 1048576∧(startL start).length≤t.2.length∧Done p i t.2) 201 ⟨rfl,rfl,hR,hc0,fun k' z hk=>by omega⟩ fun i s t hI hi=>?_
   obtain ⟨l,j⟩:=s
   obtain ⟨j',m⟩:=t
   obtain ⟨h1,h2,h3,h7,h8⟩:=hI
   simp only at h1 h2 h3 h7 h8
   subst h1
   subst h2
   have h5:=h3.sims.ll
   simp only [zaq,cond_le,h5]
   by_cases hlt:(i:Int) < (m.length:Int)
   ·rw [if_pos hlt,if_pos hlt]
    by_cases hle:(m.length:Int)≤200
    ·rw [if_pos hle,if_pos hle]
     have hk:i < m.length:=by omega
     have hk2:m[i]?=some m[i]:=List.getElem?_eq_getElem hk
     have hz:at? m (i:Int)=some m[i]:=by rw [at_nat];exact hk2
     have hz2:at? l (i:Int)=some m[i].state:=by rw [at_nat,h3.sims.eq,List.getElem?_map,List.getElem?_eq_getElem hk];rfl
     obtain ⟨es,e3,e4,e5⟩:=edges_ok p (by omega) m[i].state.point
     simp only [hz,hz2,Option.bind_some,edges_same,e3]
     obtain ⟨r,r',e6,e7,hR2,hc2,hd2⟩:=round_c p hp.1 (startL start).length i m[i] es (by unfold edF;rw [e3];rfl) (by omega) e5 l m ⟨⟨h3.sims.eq,by omega,h3.sims.tiny⟩,h3.nd,h3.root,h3.hit⟩ hk2 h7 h8
     simp only [zaq] at e6 e7
     rw [e6,e7]
     simp only [Option.bind_some]
     rw [addI_eq (by omega) (by omega)]
     exact Tot2.ret (.inl ⟨_,_,rfl,rfl,by omega,rfl,rfl,hR2,hc2,hd2⟩)
    ·rw [if_neg hle,if_neg hle]
     exact Tot2.ret (.inr ⟨_,_,rfl,rfl,h3⟩)
   ·rw [if_neg hlt,if_neg hlt]
    exact Tot2.ret (.inr ⟨_,_,rfl,rfl,h3⟩)
  obtain ⟨r,r',e3,e4,hR2⟩:=hout
  rw [e3,e4]
  simp only [Option.bind_some,zaq,hR2.sims.ll]
  by_cases hle:(r'.length:Int)≤200
  ·rw [if_neg (by omega)]
   refine ⟨_,rfl,?_,fun _=>⟨trivial,by show r'.length≤200;omega,?_,hg⟩⟩
   ·simp [leI,hle,hR2.sims.eq]
   ·have:=hR2.sims.eq
    subst this
    exact hR2
  ·rw [if_pos (by omega)]
   refine ⟨_,rfl,?_,fun h=>absurd h (by simp [leI,hle])⟩
   simp [leI,hle]
 ·have hf:(start.any fun h=>!isHeapB (p.vars.length:Int) h)=true:=by
   cases ha:(start.any fun h=>!isHeapB (p.vars.length:Int) h) with
   | true=>rfl
   | false =>
    rw [List.any_eq_false] at ha
    exact absurd (fun h hh=>by have:=ha h hh;simpa using this) hg
  rw [hf,start_bad p start hs hg]
  exact ⟨_,rfl,rfl,by simp⟩
end Go.Ev


namespace Go.Ev
open Wf (wf)
open Sm (sm lg)
theorem isErr_eq (c:Int):impl_IsError c=some (decide (2≤c∧c≤5))∧spec_IsError c=some (decide (2≤c∧c≤5)):=by
 unfold impl_IsError spec_IsError
 rw [within_eq,l1In_eq]
 exact ⟨rfl,rfl⟩
theorem reverse_ok (xs:List Int) (h:xs.length≤4000000):slices_Reverse_int xs=some xs.reverse:=by
 unfold slices_Reverse_int
 refine Tot.eq (Tot.bind (P:=(· = xs.reverse)) (Tot.loop (fun i (s:Int × Int × List Int)=>s.1=(i:Int)∧s.2.1=(xs.length:Int) - 1 - i∧s.2.2.length=xs.length∧∀ k,k < xs.length→s.2.2[k]?=if k < i∨xs.length≤k+i then xs[xs.length - 1 - k]? else xs[k]?) xs.length ⟨rfl,by rw [subI_eq (by omega) (by omega)];simp,rfl,fun k hk=>by rw [if_neg (by omega)]⟩ fun i s hI hi=>?_) fun r hr=>Tot.ret hr)
 obtain ⟨a,b,l⟩:=s
 obtain ⟨h1,h2,h3,h4⟩:=hI
 simp only at h1 h2 h3 h4
 subst h1
 subst h2
 simp only [zaq]
 by_cases hlt:(i:Int) < (xs.length:Int) - 1 - i
 ·rw [if_pos hlt]
  obtain ⟨j,hj⟩:∃ j:Nat,(xs.length:Int) - 1 - i=(j:Int):=⟨xs.length - 1 - i,by omega⟩
  rw [hj] at hlt ⊢
  have hj1:at? l (j:Int)=some l[j]:=by rw [at_nat];exact List.getElem?_eq_getElem (by omega)
  have hi1:at? l (i:Int)=some l[i]:=by rw [at_nat];exact List.getElem?_eq_getElem (by omega)
  have hj2:at? (l.set i l[j]) (j:Int)=some l[j]:=by
   rw [at_nat,List.getElem?_set_ne (by omega)];exact List.getElem?_eq_getElem (by omega)
  simp only [hj1,hi1,Option.bind_some,Int.toNat_natCast,hj2]
  rw [addI_eq (by omega) (by omega),subI_eq (by omega) (by omega)]
  refine Tot.ret ⟨by omega,rfl,by show (j:Int) - 1=(xs.length:Int) - 1 - ((i+1:Nat):Int);omega,by simp [h3],fun k hk=>?_⟩
  have e1:=h4 i (by omega)
  have e2:=h4 j (by omega)
  rw [if_neg (by omega),List.getElem?_eq_getElem (by omega)] at e1 e2
  show ((l.set i l[j]).set j l[i])[k]?=_
  by_cases hk1:k=j
  ·subst hk1
   rw [List.getElem?_set_self (by simp;omega),if_pos (by omega),e1]
   congr 1
   omega
  ·rw [List.getElem?_set_ne (by omega)]
   by_cases hk2:k=i
   ·subst hk2
    rw [List.getElem?_set_self (by omega),if_pos (by omega),e2]
    congr 1
    omega
   ·rw [List.getElem?_set_ne (by omega),h4 k hk]
    by_cases hc:k < i∨xs.length≤k+i
    ·rw [if_pos hc,if_pos (by omega)]
    ·rw [if_neg hc,if_neg (by omega)]
 ·rw [if_neg hlt]
  refine Tot.ret ?_
  show l=xs.reverse
  apply List.ext_getElem?
  intro k
  rcases Nat.lt_or_ge k xs.length with hk | hk
  ·rw [h4 k hk,List.getElem?_reverse hk]
   by_cases hc:k < i∨xs.length≤k+i
   ·rw [if_pos hc]
   ·rw [if_neg hc]
    congr 1
    omega
  ·rw [List.getElem?_eq_none (by omega),List.getElem?_eq_none (by simp;omega)]

inductive Back (m:List TMetState):Nat→Nat→List Int→Prop
 | root {j:Nat} {x:TMetState}:m[j]?=some x→x.from_ = -1→Back m j j []
 | step {j k r:Nat} {x:TMetState} {es:List Int}:m[j]?=some x→x.from_=(k:Int)→k < j→Back m k r es→Back m j r (x.edge :: es)
theorem back_ex {p:TProgram} {c n:Nat} {l:List TState} {m:List TMetState} (h:Simc p c l m n):∀ j,j < m.length→∃ r es,Back m j r es∧r < m.length∧es.length≤j:=by
 intro j
 induction j using Nat.strongRecOn with
 | _ j ih =>
  intro hj
  have hx:m[j]?=some m[j]:=List.getElem?_eq_getElem hj
  rcases Nat.lt_or_ge j c with hc | hc
  ·exact ⟨j,[],.root hx (h.root j _ hx hc),hj,Nat.zero_le _⟩
  ·obtain ⟨k,y,h1,h2,_⟩:=h.hit j _ hx hc
   obtain ⟨r,es,h3,h4,h5⟩:=ih k h2 (by omega)
   exact ⟨r,_,.step hx h1 h2 h3,h4,by simp;omega⟩
theorem impl_back {m:List TMetState} {j r:Nat} {es:List Int} (h:Back m j r es):∀ lst:List Int,lst.length+j≤1000 →
 iter (ρ:=Int × (List Int)) (fun s_52:Int × (List Int) =>
               (at? m s_52.1).bind fun e_60 =>
                cond (leI 0 e_60.from_)
                 ((at? m s_52.1).bind fun _ =>
                  (room (s_52.2.length + [e_60.edge].length) 8).bind fun _ =>
                   (at? m s_52.1).bind fun _ =>
                    some (.inl (e_60.from_,s_52.2 ++ [e_60.edge])))
                 (some (.inr (s_52.1,s_52.2)))) ((j:Int),lst)=some ((r:Int),lst ++ es):=by
 induction h with
 | root hx hf =>
  intro lst hl
  refine iter_inr ?_
  simp only [at_nat,hx,Option.bind_some,cond_le]
  rw [if_neg (by omega),List.append_nil]
 | step hx hf hk _ ih =>
  rename_i j k r x es _
  intro lst hl
  rw [iter_inl (s':=((k:Int),lst ++ [x.edge])) ?_,ih (lst ++ [x.edge]) (by simp;omega),List.append_assoc]
  ·rfl
  ·simp only [at_nat,hx,Option.bind_some,cond_le]
   rw [if_pos (by omega),room_small (by simp;omega) (by omega),hf]
   rfl
end Go.Ev


namespace Go.Ev
open Wf (wf)
open Sm (sm lg)
theorem at_ok {p:TProgram} {c n:Nat} {m:List TMetState} (hR:Simc p c (m.map (·.state)) m n) (hl:m.length≤200) (t:TState) (j:Nat) (hj:j < m.length):∃ v:Int,spec_l27At (m.map (·.state)) t=some v∧(v=(j:Int) ↔ m[j].state=t):=by
 have hml:(m.map (·.state)).length=m.length:=List.length_map ..
 unfold spec_l27At
 refine Tot.bind (Q:=fun v:Int=>v=(j:Int) ↔ m[j].state=t) (P:=fun r:Int ⊕ Unit=>match r with | .inl v=>∃ i:Nat,v=(i:Int)∧i < m.length∧∀ h:i < m.length,m[i].state=t | .inr _=>∀ i:Nat,∀ h:i < m.length,m[i].state≠t) (Tot.loop (fun i (s:Int)=>s=(i:Int)∧∀ k:Nat,∀ h:k < m.length,k < i→m[k].state≠t) m.length ⟨rfl,fun k _ hk=>by omega⟩ fun i s hI hi=>?_) fun r hr=>?_
 ·obtain ⟨rfl,h2⟩:=hI
  simp only [zaq,hml]
  by_cases hlt:(i:Int) < (m.length:Int)
  ·rw [if_pos hlt]
   have hk:i < m.length:=by omega
   have hz2:at? (m.map (·.state)) (i:Int)=some m[i].state:=by rw [at_nat,List.getElem?_map,List.getElem?_eq_getElem hk];rfl
   simp only [hz2,Option.bind_some,spec_eqState (hR.sims.tiny m[i] (List.getElem_mem hk)),cond_dec]
   by_cases he:m[i].state=t
   ·rw [if_pos he]
    exact Tot.ret ⟨i,rfl,hk,fun _=>he⟩
   ·rw [if_neg he,addI_eq (by omega) (by omega)]
    refine Tot.ret ⟨hk,rfl,fun k h hk2=>?_⟩
    rcases Nat.lt_or_ge k i with h3 | h3
    ·exact h2 k h h3
    ·have:k=i:=by omega
     subst this
     exact he
  ·rw [if_neg hlt]
   exact Tot.ret fun k h=>h2 k h (by omega)
 ·cases r with
  | inl v =>
   obtain ⟨i,rfl,h2,h3⟩:=hr
   refine Tot.ret ⟨fun h=>?_,fun h=>?_⟩
   ·have:i=j:=by omega
    subst this
    exact h3 h2
   ·have hnd:=hR.nd
    unfold List.Nodup at hnd
    rw [List.pairwise_iff_getElem] at hnd
    rcases Nat.lt_trichotomy i j with h4 | h4 | h4
    ·exact absurd (by rw [List.getElem_map,List.getElem_map,h3 h2,h]) (hnd i j (by omega) (by omega) h4)
    ·rw [h4]
    ·exact absurd (by rw [List.getElem_map,List.getElem_map,h3 h2,h]) (hnd j i (by omega) (by omega) h4)
  | inr u=>exact Tot.ret ⟨fun h=>by omega,fun h=>absurd h (hr j hj)⟩

def scanStep (p:TProgram) (m:List TMetState) (i:Nat) (hp:THeap) (es:List Int) (s_26:Int × (List Int) × Bool × Int):Option ((Int × (List Int) × Bool × Int) ⊕ (Int × (List Int) × Bool)) :=
            cond (ltI s_26.2.2.2 (es.length:Int))
             (cond s_26.2.2.1
              (some (.inr (s_26.1,s_26.2.1,s_26.2.2.1)))
              ((at? es s_26.2.2.2).bind fun e_35 =>
               (at? p.edges e_35).bind fun e_40 =>
                (at? (m.map (·.state)) (i:Int)).bind fun _ =>
                 (spec_Exec p.vars e_40.stmt hp).bind fun y_51 =>
                  cond (eqI y_51.2 0)
                   ((spec_l27At (m.map (·.state)) (⟨e_40.to_,y_51.1⟩:TState)).bind fun y_56 =>
                    cond (eqI y_56 s_26.1)
                     ((at? es s_26.2.2.2).bind fun _ =>
                      (room ([e_35].length+s_26.2.1.length) 8).bind fun _ =>
                       some (.inl ((i:Int),[e_35] ++ s_26.2.1,true,addI s_26.2.2.2 1)))
                     (some (.inl (s_26.1,s_26.2.1,s_26.2.2.1,addI s_26.2.2.2 1))))
                   (some (.inl (s_26.1,s_26.2.1,s_26.2.2.1,addI s_26.2.2.2 1)))))
             (some (.inr (s_26.1,s_26.2.1,s_26.2.2.1)))
theorem scan_step {p:TProgram} {c n:Nat} {m:List TMetState} (hn:smN p.vars) (hR:Simc p c (m.map (·.state)) m n) (hl:m.length≤200) (i j:Nat) (hi:i < m.length) (hj:j < m.length) (es:List Int) (hin:∀ e∈es,0≤e∧e < (p.edges.length:Int)) (acc:List Int) (ha:acc.length≤2000) (q:Nat) (hq:q < es.length) (hes:es.length≤24) :
 scanStep p m i m[i].state.heap es ((j:Int),acc,false,(q:Int))=some (.inl (if hit p m[i].state.heap es[q]=some m[j].state then ((i:Int),[es[q]] ++ acc,true,((q+1:Nat):Int)) else ((j:Int),acc,false,((q+1:Nat):Int)))):=by
 unfold scanStep
 have hx:at? es (q:Int)=some es[q]:=by rw [at_nat];exact List.getElem?_eq_getElem hq
 have he:=hin _ (List.getElem_mem hq)
 have hy:at? p.edges es[q]=some (p.edges.getD es[q].toNat zE):=at_in' he zE
 have hz2:at? (m.map (·.state)) (i:Int)=some m[i].state:=by rw [at_nat,List.getElem?_map,List.getElem?_eq_getElem hi];rfl
 obtain ⟨r,hr⟩:=exec_both p.vars (p.edges.getD es[q].toNat zE).stmt m[i].state.heap hn
 have hex:exF p es[q] m[i].state.heap=r:=by unfold exF;rw [hr.spec];rfl
 simp only [zaq,cond_eq,hx,hy,hz2,Option.bind_some,hr.spec,cond_false]
 rw [if_pos (by omega),addI_eq (by omega) (by omega)]
 unfold hit
 rw [hex]
 by_cases hc:r.2=0
 ·rw [if_pos hc,if_pos hc]
  obtain ⟨v,hv,hvi⟩:=at_ok hR hl ⟨(p.edges.getD es[q].toNat zE).to_,r.1⟩ j hj
  rw [hv]
  simp only [Option.bind_some]
  by_cases hvj:v=(j:Int)
  ·rw [if_pos hvj,if_pos (by rw [hvi.1 hvj]),room_small (by simp;omega) (by omega)]
   rfl
  ·rw [if_neg hvj,if_neg (fun h=>hvj (hvi.2 (Option.some.inj h).symm))]
   rfl
 ·rw [if_neg hc,if_neg hc,if_neg (by simp)]
  rfl
theorem scan_no {p:TProgram} {c n:Nat} {m:List TMetState} (hn:smN p.vars) (hR:Simc p c (m.map (·.state)) m n) (hl:m.length≤200) (i j:Nat) (hi:i < m.length) (hj:j < m.length) (es:List Int) (hin:∀ e∈es,0≤e∧e < (p.edges.length:Int)) (acc:List Int) (ha:acc.length≤2000) (hes:es.length≤24) (hno:∀ e∈es,hit p m[i].state.heap e≠some m[j].state) :
 iter (scanStep p m i m[i].state.heap es) ((j:Int),acc,false,0)=some ((j:Int),acc,false):=by
 refine Tot.eq (Tot.loop (fun q (s:Int × (List Int) × Bool × Int)=>s=((j:Int),acc,false,(q:Int))) es.length rfl fun q s hI hq=>?_)
 subst hI
 rcases Nat.lt_or_ge q es.length with h | h
 ·rw [scan_step hn hR hl i j hi hj es hin acc ha q h hes,if_neg (hno _ (List.getElem_mem h))]
  exact Tot.ret ⟨h,rfl⟩
 ·unfold scanStep
  simp only [zaq]
  rw [if_neg (by omega)]
  exact Tot.ret rfl
theorem scan_yes {p:TProgram} {c n:Nat} {m:List TMetState} (hn:smN p.vars) (hR:Simc p c (m.map (·.state)) m n) (hl:m.length≤200) (i j:Nat) (hi:i < m.length) (hj:j < m.length) (es1 es2:List Int) (e:Int) (hin:∀ e'∈es1 ++ e :: es2,0≤e'∧e' < (p.edges.length:Int)) (acc:List Int) (ha:acc.length≤2000) (hes:(es1 ++ e :: es2).length≤24) (hno:∀ e∈es1,hit p m[i].state.heap e≠some m[j].state) (hy:hit p m[i].state.heap e=some m[j].state) :
 iter (scanStep p m i m[i].state.heap (es1 ++ e :: es2)) ((j:Int),acc,false,0)=some ((i:Int),[e] ++ acc,true):=by
 have hlen:(es1 ++ e :: es2).length=es1.length+1+es2.length:=by simp;omega
 refine Tot.eq (Tot.loop (fun q (s:Int × (List Int) × Bool × Int)=>(q≤es1.length∧s=((j:Int),acc,false,(q:Int)))∨(q=es1.length+1∧s=((i:Int),[e] ++ acc,true,(q:Int)))) (es1.length+1) (.inl ⟨Nat.zero_le _,rfl⟩) fun q s hI hq=>?_)
 rcases hI with ⟨h1,rfl⟩|⟨rfl,rfl⟩
 ·have hq2:q < (es1 ++ e :: es2).length:=by omega
  rw [scan_step hn hR hl i j hi hj _ hin acc ha q hq2 hes]
  rcases Nat.lt_or_ge q es1.length with h | h
  ·have hg:(es1 ++ e :: es2)[q]=es1[q]:=List.getElem_append_left h
   rw [hg,if_neg (hno _ (List.getElem_mem h))]
   exact Tot.ret ⟨by omega,.inl ⟨h,rfl⟩⟩
  ·have:q=es1.length:=by omega
   subst this
   have hg:(es1 ++ e :: es2)[es1.length]=e:=by simp
   rw [hg,if_pos hy]
   exact Tot.ret ⟨by omega,.inr ⟨rfl,rfl⟩⟩
 ·unfold scanStep
  simp only [zaq,cond_true]
  by_cases h:((es1.length+1:Nat):Int) < ((es1 ++ e :: es2).length:Int)
  ·rw [if_pos h];exact Tot.ret rfl
  ·rw [if_neg h];exact Tot.ret rfl
theorem ed_ok (p:TProgram) (hp:p.edges.length≤24) (pt:Int):spec_EdgesFrom p pt=some (edF p pt)∧(edF p pt).length≤24∧∀ e∈edF p pt,0≤e∧e < (p.edges.length:Int):=by
 obtain ⟨r,h1,h2,h3⟩:=edges_ok p (by omega) pt
 have:edF p pt=r:=by unfold edF;rw [h1];rfl
 rw [this]
 exact ⟨h1,by omega,h3⟩
theorem spec_back {p:TProgram} {c n:Nat} {m:List TMetState} (hn:smN p.vars) (hpe:p.edges.length≤24) (hR:Simc p c (m.map (·.state)) m n) (hl:m.length≤200) {j r:Nat} {ps:List Int} (h:Back m j r ps):∀ acc:List Int,acc.length+j≤1000→j < m.length →
 iter (ρ:=(Unit) ⊕ (Int × (List Int))) (fun s_1:Int × (List Int) =>
  cond (leI (c:Int) s_1.1)
   ((iter (ρ:=Int × (List Int) × Bool) (fun s_9:Int × (List Int) × Bool × Int =>
    cond (ltI s_9.2.2.2 s_9.1)
     (cond s_9.2.2.1
      (some (.inr (s_9.1,s_9.2.1,s_9.2.2.1)))
      ((at? (m.map (·.state)) s_9.2.2.2).bind fun e_18 =>
       (spec_EdgesFrom p e_18.point).bind fun y_23 =>
        (iter (ρ:=Int × (List Int) × Bool) (fun s_26:Int × (List Int) × Bool × Int =>
         cond (ltI s_26.2.2.2 (y_23.length:Int))
          (cond s_26.2.2.1
           (some (.inr (s_26.1,s_26.2.1,s_26.2.2.1)))
           ((at? y_23 s_26.2.2.2).bind fun e_35 =>
            (at? p.edges e_35).bind fun e_40 =>
             (at? (m.map (·.state)) s_9.2.2.2).bind fun _ =>
              (spec_Exec p.vars e_40.stmt e_18.heap).bind fun y_51 =>
               cond (eqI y_51.2 0)
                ((spec_l27At (m.map (·.state)) (⟨e_40.to_,y_51.1⟩:TState)).bind fun y_56 =>
                 cond (eqI y_56 s_26.1)
                  ((at? y_23 s_26.2.2.2).bind fun _ =>
                   (room ([e_35].length+s_26.2.1.length) 8).bind fun _ =>
                    some (.inl (s_9.2.2.2,[e_35] ++ s_26.2.1,true,addI s_26.2.2.2 1)))
                  (some (.inl (s_26.1,s_26.2.1,s_26.2.2.1,addI s_26.2.2.2 1))))
                (some (.inl (s_26.1,s_26.2.1,s_26.2.2.1,addI s_26.2.2.2 1)))))
          (some (.inr (s_26.1,s_26.2.1,s_26.2.2.1)))) (s_9.1,s_9.2.1,s_9.2.2.1,0)).bind fun r_67 =>
         some (.inl (r_67.1,r_67.2.1,r_67.2.2,addI s_9.2.2.2 1))))
     (some (.inr (s_9.1,s_9.2.1,s_9.2.2.1)))) (s_1.1,s_1.2,false,0)).bind fun r_72 =>
    cond r_72.2.2
     (some (.inl (r_72.1,r_72.2.1)))
     (some (.inr (.inl ()))))
   (some (.inr (.inr (s_1.1,s_1.2))))) ((j:Int),acc)=some (.inr ((r:Int),ps.reverse ++ acc)):=by
 induction h with
 | root hx hf =>
  rename_i j x
  intro acc ha hj
  refine iter_inr ?_
  have hc:j < c:=by
   rcases Nat.lt_or_ge j c with hc | hc
   ·exact hc
   ·obtain ⟨k,y,h1,_⟩:=hR.hit j x hx hc
    omega
  simp only [cond_le]
  rw [if_neg (by omega)]
  rfl
 | step hx hf hk hb ih =>
  rename_i j k r x ps
  intro acc ha hj
  have hc:c≤j:=by
   rcases Nat.lt_or_ge j c with hc | hc
   ·have:=hR.root j x hx hc
    omega
   ·exact hc
  obtain ⟨k',y,h1,h2,h3,⟨es1,es2,h4,h5,h6⟩,h7⟩:=hR.hit j x hx hc
  have hkk:k'=k:=by omega
  subst hkk
  have hxj:m[j]=x:=by rw [List.getElem?_eq_getElem hj] at hx;exact Option.some.inj hx
  have hkm:k' < m.length:=by omega
  have hyk:m[k']=y:=by rw [List.getElem?_eq_getElem hkm] at h3;exact Option.some.inj h3
  rw [iter_inl (s':=((k':Int),[x.edge] ++ acc)) ?_,ih ([x.edge] ++ acc) (by simp;omega) hkm]
  ·simp
  ·simp only [cond_le]
   rw [if_pos (by omega)]
   refine Tot.eq (Tot.bind (P:=fun z:Int × (List Int) × Bool=>z=((k':Int),[x.edge] ++ acc,true)) (Tot.loop (fun i (s:Int × (List Int) × Bool × Int)=>(i≤k'∧s=((j:Int),acc,false,(i:Int)))∨(i=k' + 1∧s=((k':Int),[x.edge] ++ acc,true,(i:Int)))) (k' + 1) (.inl ⟨Nat.zero_le _,rfl⟩) fun i s hI hi=>?_) fun z hz=>by rw [hz];exact Tot.ret rfl)
   rcases hI with ⟨g1,rfl⟩|⟨rfl,rfl⟩
   ·have him:i < m.length:=by omega
    have hz2:at? (m.map (·.state)) (i:Int)=some m[i].state:=by rw [at_nat,List.getElem?_map,List.getElem?_eq_getElem him];rfl
    obtain ⟨e1,e2,e3⟩:=ed_ok p hpe m[i].state.point
    simp only [zaq]
    rw [if_pos (by omega)]
    simp only [cond_false,hz2,Option.bind_some,e1]
    have hst:∀ s,iter (scanStep p m i m[i].state.heap (edF p m[i].state.point)) s=iter (ρ:=Int × (List Int) × Bool) (fun s_26:Int × (List Int) × Bool × Int =>
     if s_26.2.2.2 < ((edF p m[i].state.point).length:Int) then
      (cond s_26.2.2.1
       (some (.inr (s_26.1,s_26.2.1,s_26.2.2.1)))
       ((at? (edF p m[i].state.point) s_26.2.2.2).bind fun e_35 =>
        (at? p.edges e_35).bind fun e_40 =>
         (spec_Exec p.vars e_40.stmt m[i].state.heap).bind fun y_51 =>
          cond (eqI y_51.2 0)
           ((spec_l27At (m.map (·.state)) (⟨e_40.to_,y_51.1⟩:TState)).bind fun y_56 =>
            cond (eqI y_56 s_26.1)
             ((at? (edF p m[i].state.point) s_26.2.2.2).bind fun _ =>
              (room ([e_35].length+s_26.2.1.length) 8).bind fun _ =>
               some (.inl ((i:Int),[e_35] ++ s_26.2.1,true,addI s_26.2.2.2 1)))
             (some (.inl (s_26.1,s_26.2.1,s_26.2.2.1,addI s_26.2.2.2 1))))
           (some (.inl (s_26.1,s_26.2.1,s_26.2.2.1,addI s_26.2.2.2 1)))))
      else (some (.inr (s_26.1,s_26.2.1,s_26.2.2.1)))) s:=by
     intro s
     unfold scanStep
     simp only [hz2,Option.bind_some,zaq]
    rw [← hst]
    rcases Nat.lt_or_ge i k' with hik | hik
    ·rw [scan_no hn hR hl i j him hj _ e3 acc (by omega) e2 (fun e he=>by rw [hxj];exact h7 i m[i] hik (List.getElem?_eq_getElem him) e he)]
     simp only [Option.bind_some]
     rw [addI_eq (by omega) (by omega)]
     exact Tot.ret ⟨by omega,.inl ⟨hik,rfl⟩⟩
    ·have:i=k':=by omega
     subst this
     have hed:edF p m[i].state.point=es1 ++ x.edge :: es2:=by rw [hyk];exact h4
     rw [hed] at e2 e3 ⊢
     rw [scan_yes hn hR hl i j him hj es1 es2 x.edge e3 acc (by omega) e2 (fun e he=>by rw [hxj,hyk];exact h6 e he) (by rw [hxj,hyk];exact h5)]
     simp only [Option.bind_some]
     rw [addI_eq (by omega) (by omega)]
     exact Tot.ret ⟨by omega,.inr ⟨by trivial,rfl⟩⟩
   ·simp only [zaq]
    rw [if_neg (by omega)]
    exact Tot.ret rfl
theorem spec_path {p:TProgram} {c n:Nat} {m:List TMetState} (hn:smN p.vars) (hpe:p.edges.length≤24) (hR:Simc p c (m.map (·.state)) m n) (hl:m.length≤200) {j r:Nat} {ps:List Int} (h:Back m j r ps) (hj:j < m.length) (hr:r < m.length):spec_l27Path p (m.map (·.state)) (c:Int) (j:Int)=some ⟨m[r].state.heap,ps.reverse,0⟩:=by
 unfold spec_l27Path
 rw [spec_back hn hpe hR hl h [] (by simp;omega) hj]
 have hz2:at? (m.map (·.state)) (r:Int)=some m[r].state:=by rw [at_nat,List.getElem?_map,List.getElem?_eq_getElem hr];rfl
 simp only [Option.bind_some,Sum.elim_inr,hz2,List.append_nil]
 rw [spec_copy _ (tiny_ok (hR.sims.tiny m[r] (List.getElem_mem hr)))]
 rfl
theorem spec_start (p:TProgram) (start:List THeap) (hs:start.length≤1048576) (hg:∀ h∈start,isHeapB (p.vars.length:Int) h=true):spec_l27Start start=some ((startL start).length:Int):=by
 unfold spec_l27Start
 refine Tot.eq (Tot.bind (P:=fun r:List TState=>r=startL start) (Tot.loop (fun i (s:List TState × Int)=>s.2=(i:Int)∧s.1=startL (start.take i)∧s.1.length≤i∧∀ x∈s.1,tinyS x) start.length ⟨rfl,rfl,by simp,by simp⟩ fun i s hI hi=>?_) fun r hr=>by rw [hr];exact Tot.ret rfl)
 obtain ⟨l,j⟩:=s
 obtain ⟨h1,h2,h3,h4⟩:=hI
 simp only at h1 h2 h3 h4
 subst h1
 simp only [zaq]
 by_cases hlt:(i:Int) < (start.length:Int)
 ·rw [if_pos hlt]
  have hi2:i < start.length:=by omega
  have hx:at? start (i:Int)=some start[i]:=by rw [at_nat];exact List.getElem?_eq_getElem hi2
  have ht:=tiny_start (hg _ (List.getElem_mem hi2))
  simp only [hx,Option.bind_some,spec_put (l:=l) (by omega) h4 ht]
  rw [addI_eq (by omega) (by omega)]
  refine Tot.ret ⟨hi2,rfl,?_,?_,?_⟩
  ·show putS l _=_
   rw [startL_snoc start i hi2,← h2]
  ·show (putS l _).length≤i+1
   unfold putS
   split
   ·omega
   ·simp;omega
  ·intro x hx
   have hx:x∈putS l ⟨0,start[i]⟩:=hx
   unfold putS at hx
   split at hx
   ·exact h4 x hx
   ·rcases List.mem_append.1 hx with hx | hx
    ·exact h4 x hx
    ·rw [List.mem_singleton.1 hx];exact ht
 ·rw [if_neg hlt]
  rw [List.take_of_length_le (by omega)] at h2
  exact Tot.ret h2
end Go.Ev


namespace Go.Ev
open Wf (wf)
open Sm (sm lg)
abbrev SpecR:=(Bool × (List Int) × (List Int) × (List Int) × Int) ⊕ (Unit)
abbrev ImplR:=(Bool × (List Int) × (List Int) × (List Int) × Int × Bool) ⊕ ((List Int) × (List Int) × (List Int) × Int × Bool)
def Same (b:Prop) (r:SpecR) (r':ImplR):Prop:=(∃ v n es code,r=.inl (true,v,n,es,code)∧r'=.inl (true,v,n,es,code,true)∧v.length≤4∧n.length≤7∧es.length≤1000∧b)∨(r=.inr ()∧r'=.inr ([],[],[],0,false))
theorem find_round (p:TProgram) (start:List THeap) (hn:smN p.vars) (hpe:p.edges.length≤24) (c i:Nat) (es:List Int) (hes:es.length≤24) (hin:∀ e∈es,0≤e∧e < (p.edges.length:Int)) (m:List TMetState) (hR:Simc p c (m.map (·.state)) m 1048576) (hl:m.length≤200) (hi:i < m.length) (hc:spec_l27Start start=some (c:Int)) (edge want:Int)
 (G:TFailure→List Int→List Int→List Int→Int→Bool→Option (Bool × List Int × List Int × List Int × Int × Bool))
 (hG:∀ h es e code,es.length≤1000→0≤e→e < (p.edges.length:Int)→G ⟨h,es ++ [e],code⟩ [] [] [] 0 false=some (if edge < 0∨(edge=e∧want=code) then (false,h.vars,h.next,es ++ [e],code,true) else (true,[],[],[],0,false))) :
 Tot2 (iter (ρ:=(Bool × (List Int) × (List Int) × (List Int) × Int) ⊕ (Unit)) (fun s_21:Int =>
       cond (ltI s_21 (es.length:Int))
        ((at? es s_21).bind fun e_29 =>
         (at? p.edges e_29).bind fun e_34 =>
          (at? (m.map (·.state)) (i:Int)).bind fun _ =>
           (spec_Exec p.vars e_34.stmt m[i].state.heap).bind fun y_44 =>
            (spec_IsError y_44.2).bind fun y_48 =>
             cond y_48
              (cond (ltI edge 0)
               ((spec_l27Start start).bind fun y_53 =>
                (spec_l27Path p (m.map (·.state)) y_53 (i:Int)).bind fun y_56 =>
                 (at? es s_21).bind fun _ =>
                  (room (y_56.edges.length + [e_29].length) 8).bind fun _ =>
                   some (.inr (.inl (true,y_56.heap.vars,y_56.heap.next,y_56.edges ++ [e_29],y_44.2))))
               ((at? es s_21).bind fun _ =>
                cond (eqI edge e_29)
                 (cond (eqI want y_44.2)
                  ((spec_l27Start start).bind fun y_74 =>
                   (spec_l27Path p (m.map (·.state)) y_74 (i:Int)).bind fun y_77 =>
                    (at? es s_21).bind fun _ =>
                     (room (y_77.edges.length + [e_29].length) 8).bind fun _ =>
                      some (.inr (.inl (true,y_77.heap.vars,y_77.heap.next,y_77.edges ++ [e_29],y_44.2))))
                  (some (.inl (addI s_21 1))))
                 (some (.inl (addI s_21 1)))))
              (some (.inl (addI s_21 1))))
        (some (.inr (.inr ())))) 0)
 (iter (ρ:=(Bool × (List Int) × (List Int) × (List Int) × Int × Bool) ⊕ ((List Int) × (List Int) × (List Int) × Int × Bool)) (fun s_24:Int × (List Int) × (List Int) × (List Int) × Int × Bool =>
       cond (ltI s_24.1 (es.length:Int))
        ((at? es s_24.1).bind fun e_33 =>
         (at? p.edges e_33).bind fun e_38 =>
          (impl_Exec p.vars e_38.stmt m[i].state.heap).bind fun y_43 =>
           (impl_IsError y_43.2).bind fun y_47 =>
            cond y_47
             ((iter (ρ:=Int × (List Int)) (fun s_52:Int × (List Int) =>
              (at? m s_52.1).bind fun e_60 =>
               cond (leI 0 e_60.from_)
                ((at? m s_52.1).bind fun _ =>
                 (room (s_52.2.length + [e_60.edge].length) 8).bind fun _ =>
                  (at? m s_52.1).bind fun _ =>
                   some (.inl (e_60.from_,s_52.2 ++ [e_60.edge])))
                (some (.inr (s_52.1,s_52.2)))) ((i:Int),[e_33])).bind fun r_78 =>
              (slices_Reverse_int r_78.2).bind fun y_87 =>
               (at? m r_78.1).bind fun e_93 =>
                (impl_Heap_own e_93.state.heap).bind fun y_98 =>
                 (G (⟨y_98,y_87,y_43.2⟩:TFailure) s_24.2.1 s_24.2.2.1 s_24.2.2.2.1 s_24.2.2.2.2.1 s_24.2.2.2.2.2).bind fun y_103 =>
                  cond y_103.1
                   (some (.inl (addI s_24.1 1,y_103.2.1,y_103.2.2.1,y_103.2.2.2.1,y_103.2.2.2.2.1,y_103.2.2.2.2.2)))
                   (some (.inr (.inl (true,y_103.2.1,y_103.2.2.1,y_103.2.2.2.1,y_103.2.2.2.2.1,y_103.2.2.2.2.2)))))
             (some (.inl (addI s_24.1 1,s_24.2.1,s_24.2.2.1,s_24.2.2.2.1,s_24.2.2.2.2.1,s_24.2.2.2.2.2))))
        (some (.inr (.inr (s_24.2.1,s_24.2.2.1,s_24.2.2.2.1,s_24.2.2.2.2.1,s_24.2.2.2.2.2))))) (0,[],[],[],0,false)) (Same (edge < (p.edges.length:Int))):=by
 refine Tot2.loop (fun j (s:Int) (t:Int × (List Int) × (List Int) × (List Int) × Int × Bool)=>s=(j:Int)∧t=((j:Int),[],[],[],0,false)) es.length ⟨rfl,rfl⟩ fun j s t hI hj=>?_
 obtain ⟨rfl,rfl⟩:=hI
 simp only [zaq]
 by_cases hlt:(j:Int) < (es.length:Int)
 ·rw [if_pos hlt,if_pos hlt]
  have hj2:j < es.length:=by omega
  have hx:at? es (j:Int)=some es[j]:=by rw [at_nat];exact List.getElem?_eq_getElem hj2
  have he:=hin _ (List.getElem_mem hj2)
  have hy:at? p.edges es[j]=some (p.edges.getD es[j].toNat zE):=at_in' he zE
  have hz2:at? (m.map (·.state)) (i:Int)=some m[i].state:=by rw [at_nat,List.getElem?_map,List.getElem?_eq_getElem hi];rfl
  obtain ⟨r,hr⟩:=exec_both p.vars (p.edges.getD es[j].toNat zE).stmt m[i].state.heap hn
  simp only [hx,hy,hz2,Option.bind_some,hr.spec,hr.impl,(isErr_eq _).1,(isErr_eq _).2,cond_dec,cond_eq]
  rw [addI_eq (a:=(j:Int)) (by omega) (by omega)]
  have hcast:(j:Int)+1=((j+1:Nat):Int):=by omega
  rw [hcast]
  by_cases hc2:2≤r.2∧r.2≤5
  ·rw [if_pos hc2,if_pos hc2]
   obtain ⟨q,ps,k1,k2,k3⟩:=back_ex hR i hi
   have hq:at? m (q:Int)=some m[q]:=by rw [at_nat];exact List.getElem?_eq_getElem k2
   have hts:=hR.sims.tiny m[q] (List.getElem_mem k2)
   have ht:=tiny_ok hts
   rw [impl_back k1 [es[j]] (by simp;omega)]
   simp only [Option.bind_some]
   rw [reverse_ok _ (by simp;omega)]
   simp only [Option.bind_some,hq]
   rw [impl_own _ (by have:=ht.1;unfold small;omega) (by have:=ht.2;unfold small;omega)]
   simp only [Option.bind_some]
   have hrev:([es[j]] ++ ps).reverse=ps.reverse ++ [es[j]]:=by simp
   rw [hrev,hG _ _ _ _ (by simp;omega) he.1 he.2]
   simp only [Option.bind_some,hc]
   rw [spec_path hn hpe hR hl k1 hi k2]
   simp only [Option.bind_some]
   rw [room_small (by simp;omega) (by omega)]
   simp only [Option.bind_some]
   have hfound:edge < (p.edges.length:Int)→Same (edge < (p.edges.length:Int)) (.inl (true,m[q].state.heap.vars,m[q].state.heap.next,ps.reverse ++ [es[j]],r.2)) (.inl (true,m[q].state.heap.vars,m[q].state.heap.next,ps.reverse ++ [es[j]],r.2,true)) :=
    fun hb=>.inl ⟨_,_,_,_,rfl,rfl,hts.1,hts.2,by simp;omega,hb⟩
   by_cases h1:edge < 0
   ·rw [if_pos h1,if_pos (.inl h1)]
    exact Tot2.ret (.inr ⟨_,_,rfl,rfl,hfound (by omega)⟩)
   ·rw [if_neg h1]
    by_cases h2:edge=es[j]
    ·rw [if_pos h2]
     by_cases h3:want=r.2
     ·rw [if_pos h3,if_pos (.inr ⟨h2,h3⟩)]
      exact Tot2.ret (.inr ⟨_,_,rfl,rfl,hfound (by omega)⟩)
     ·rw [if_neg h3,if_neg (by rintro (h4 | h4);exact h1 h4;exact h3 h4.2)]
      exact Tot2.ret (.inl ⟨_,_,rfl,rfl,hj2,rfl,rfl⟩)
    ·rw [if_neg h2,if_neg (by rintro (h4 | h4);exact h1 h4;exact h2 h4.1)]
     exact Tot2.ret (.inl ⟨_,_,rfl,rfl,hj2,rfl,rfl⟩)
  ·rw [if_neg hc2,if_neg hc2]
   exact Tot2.ret (.inl ⟨_,_,rfl,rfl,hj2,rfl,rfl⟩)
 ·rw [if_neg hlt,if_neg hlt]
  exact Tot2.ret (.inr ⟨_,_,rfl,rfl,.inr ⟨rfl,rfl⟩⟩)
theorem find_out (p:TProgram) (start:List THeap) (hn:smN p.vars) (hpe:p.edges.length≤24) (c:Nat) (m:List TMetState) (hR:Simc p c (m.map (·.state)) m 1048576) (hl:m.length≤200) (hc:spec_l27Start start=some (c:Int)) (edge want:Int)
 (G:TFailure→List Int→List Int→List Int→Int→Bool→Option (Bool × List Int × List Int × List Int × Int × Bool))
 (hG:∀ h es e code,es.length≤1000→0≤e→e < (p.edges.length:Int)→G ⟨h,es ++ [e],code⟩ [] [] [] 0 false=some (if edge < 0∨(edge=e∧want=code) then (false,h.vars,h.next,es ++ [e],code,true) else (true,[],[],[],0,false))) :
 Tot2 (iter (ρ:=(Bool × (List Int) × (List Int) × (List Int) × Int) ⊕ (Unit)) (fun s_5:Int =>
  cond (ltI s_5 ((m.map (·.state)).length:Int))
   ((at? (m.map (·.state)) s_5).bind fun e_13 =>
    (spec_EdgesFrom p e_13.point).bind fun y_18 =>
     (iter (ρ:=(Bool × (List Int) × (List Int) × (List Int) × Int) ⊕ (Unit)) (fun s_21:Int =>
      cond (ltI s_21 (y_18.length:Int))
       ((at? y_18 s_21).bind fun e_29 =>
        (at? p.edges e_29).bind fun e_34 =>
         (at? (m.map (·.state)) s_5).bind fun _ =>
          (spec_Exec p.vars e_34.stmt e_13.heap).bind fun y_44 =>
           (spec_IsError y_44.2).bind fun y_48 =>
            cond y_48
             (cond (ltI edge 0)
              ((spec_l27Start start).bind fun y_53 =>
               (spec_l27Path p (m.map (·.state)) y_53 s_5).bind fun y_56 =>
                (at? y_18 s_21).bind fun _ =>
                 (room (y_56.edges.length + [e_29].length) 8).bind fun _ =>
                  some (.inr (.inl (true,y_56.heap.vars,y_56.heap.next,y_56.edges ++ [e_29],y_44.2))))
              ((at? y_18 s_21).bind fun _ =>
               cond (eqI edge e_29)
                (cond (eqI want y_44.2)
                 ((spec_l27Start start).bind fun y_74 =>
                  (spec_l27Path p (m.map (·.state)) y_74 s_5).bind fun y_77 =>
                   (at? y_18 s_21).bind fun _ =>
                    (room (y_77.edges.length + [e_29].length) 8).bind fun _ =>
                     some (.inr (.inl (true,y_77.heap.vars,y_77.heap.next,y_77.edges ++ [e_29],y_44.2))))
                 (some (.inl (addI s_21 1))))
                (some (.inl (addI s_21 1)))))
             (some (.inl (addI s_21 1))))
       (some (.inr (.inr ())))) 0).bind fun r_88 =>
      Sum.elim (fun r_88 =>
       some (.inr (.inl (r_88.1,r_88.2.1,r_88.2.2.1,r_88.2.2.2.1,r_88.2.2.2.2))))
       (fun _r_88 =>
       some (.inl (addI s_5 1))) r_88)
   (some (.inr (.inr ())))) 0)
 (iter (ρ:=(Bool × (List Int) × (List Int) × (List Int) × Int × Bool) ⊕ ((List Int) × (List Int) × (List Int) × Int × Bool)) (fun s_6:Int × (List Int) × (List Int) × (List Int) × Int × Bool =>
  cond (ltI s_6.1 (m.length:Int))
   ((at? m s_6.1).bind fun e_15 =>
    (impl_EdgesFrom p e_15.state.point).bind fun y_21 =>
     (iter (ρ:=(Bool × (List Int) × (List Int) × (List Int) × Int × Bool) ⊕ ((List Int) × (List Int) × (List Int) × Int × Bool)) (fun s_24:Int × (List Int) × (List Int) × (List Int) × Int × Bool =>
      cond (ltI s_24.1 (y_21.length:Int))
       ((at? y_21 s_24.1).bind fun e_33 =>
        (at? p.edges e_33).bind fun e_38 =>
         (impl_Exec p.vars e_38.stmt e_15.state.heap).bind fun y_43 =>
          (impl_IsError y_43.2).bind fun y_47 =>
           cond y_47
            ((iter (ρ:=Int × (List Int)) (fun s_52:Int × (List Int) =>
             (at? m s_52.1).bind fun e_60 =>
              cond (leI 0 e_60.from_)
               ((at? m s_52.1).bind fun _ =>
                (room (s_52.2.length + [e_60.edge].length) 8).bind fun _ =>
                 (at? m s_52.1).bind fun _ =>
                  some (.inl (e_60.from_,s_52.2 ++ [e_60.edge])))
               (some (.inr (s_52.1,s_52.2)))) (s_6.1,[e_33])).bind fun r_78 =>
             (slices_Reverse_int r_78.2).bind fun y_87 =>
              (at? m r_78.1).bind fun e_93 =>
               (impl_Heap_own e_93.state.heap).bind fun y_98 =>
                (G (⟨y_98,y_87,y_43.2⟩:TFailure) s_24.2.1 s_24.2.2.1 s_24.2.2.2.1 s_24.2.2.2.2.1 s_24.2.2.2.2.2).bind fun y_103 =>
                 cond y_103.1
                  (some (.inl (addI s_24.1 1,y_103.2.1,y_103.2.2.1,y_103.2.2.2.1,y_103.2.2.2.2.1,y_103.2.2.2.2.2)))
                  (some (.inr (.inl (true,y_103.2.1,y_103.2.2.1,y_103.2.2.2.1,y_103.2.2.2.2.1,y_103.2.2.2.2.2)))))
            (some (.inl (addI s_24.1 1,s_24.2.1,s_24.2.2.1,s_24.2.2.2.1,s_24.2.2.2.2.1,s_24.2.2.2.2.2))))
       (some (.inr (.inr (s_24.2.1,s_24.2.2.1,s_24.2.2.2.1,s_24.2.2.2.2.1,s_24.2.2.2.2.2))))) (0,s_6.2.1,s_6.2.2.1,s_6.2.2.2.1,s_6.2.2.2.2.1,s_6.2.2.2.2.2)).bind fun r_110 =>
      Sum.elim (fun r_110 =>
       some (.inr (.inl (r_110.1,r_110.2.1,r_110.2.2.1,r_110.2.2.2.1,r_110.2.2.2.2.1,r_110.2.2.2.2.2))))
       (fun r_110 =>
       some (.inl (addI s_6.1 1,r_110.1,r_110.2.1,r_110.2.2.1,r_110.2.2.2.1,r_110.2.2.2.2))) r_110)
   (some (.inr (.inr (s_6.2.1,s_6.2.2.1,s_6.2.2.2.1,s_6.2.2.2.2.1,s_6.2.2.2.2.2))))) (0,[],[],[],0,false)) (Same (edge < (p.edges.length:Int))):=by
 have hml:(m.map (·.state)).length=m.length:=List.length_map ..
 refine Tot2.loop (fun i (s:Int) (t:Int × (List Int) × (List Int) × (List Int) × Int × Bool)=>s=(i:Int)∧t=((i:Int),[],[],[],0,false)) m.length ⟨rfl,rfl⟩ fun i s t hI hi=>?_
 obtain ⟨rfl,rfl⟩:=hI
 simp only [zaq,hml]
 by_cases hlt:(i:Int) < (m.length:Int)
 ·rw [if_pos hlt,if_pos hlt]
  have hk:i < m.length:=by omega
  have hz:at? m (i:Int)=some m[i]:=by rw [at_nat];exact List.getElem?_eq_getElem hk
  have hz2:at? (m.map (·.state)) (i:Int)=some m[i].state:=by rw [at_nat,List.getElem?_map,List.getElem?_eq_getElem hk];rfl
  obtain ⟨es,e4,e5,e6⟩:=edges_ok p (by omega) m[i].state.point
  obtain ⟨r,r',e7,e8,hS⟩:=find_round p start hn hpe c i es (by omega) e6 m hR hl hk hc edge want G hG
  simp only [hz,hz2,Option.bind_some,edges_same,e4]
  simp only [zaq,hz2,Option.bind_some] at e7 e8
  rw [e7,e8]
  simp only [Option.bind_some]
  rcases hS with ⟨v,n,es',code,rfl,rfl,b1,b2,b3,b4⟩|⟨rfl,rfl⟩
  ·exact Tot2.ret (.inr ⟨_,_,rfl,rfl,.inl ⟨v,n,es',code,rfl,rfl,b1,b2,b3,b4⟩⟩)
  ·simp only [Sum.elim_inr]
   rw [addI_eq (by omega) (by omega)]
   exact Tot2.ret (.inl ⟨_,_,rfl,rfl,hk,rfl,rfl⟩)
 ·rw [if_neg hlt,if_neg hlt]
  exact Tot2.ret (.inr ⟨_,_,rfl,rfl,.inr ⟨rfl,rfl⟩⟩)
end Go.Ev


namespace Go.Ev
theorem cntE_markStringS_ok (x:ByteArray) (k:Int) (hk:0≤k) (hb:k+cntE_markStringS x≤maxMark):(mkE_markStringS x k).2=k+cntE_markStringS x:=by
 unfold cntE_markStringS maxMark at *
 unfold mkE_markStringS
 have h0:addI k 1=k+1:=addI_eq (by omega) (by omega)
 simp only
 omega
theorem markStringS_snd (xs:List ByteArray) (k:Int) (hk:0≤k) (hb:k+cntF_markStringS xs≤maxMark):(mkF_markStringS xs k).2=k+cntF_markStringS xs:=mkRow_snd cntE_markStringS_ok xs k hk hb
theorem cntE_markEdgeS_ok (x:TEdge) (k:Int) (hk:0≤k) (hb:k+cntE_markEdgeS x≤maxMark):(mkE_markEdgeS x k).2=k+cntE_markEdgeS x:=by
 unfold cntE_markEdgeS maxMark at *
 unfold mkE_markEdgeS
 have h0:addI k 1=k+1:=addI_eq (by omega) (by omega)
 have h1:addI (addI k 1) 1=(addI k 1)+1:=addI_eq (by omega) (by omega)
 have h2:addI (addI (addI k 1) 1) 1=(addI (addI k 1) 1)+1:=addI_eq (by omega) (by omega)
 have h3:addI (addI (addI (addI k 1) 1) 1) 1=(addI (addI (addI k 1) 1) 1)+1:=addI_eq (by omega) (by omega)
 have h4:addI (addI (addI (addI (addI k 1) 1) 1) 1) 1=(addI (addI (addI (addI k 1) 1) 1) 1)+1:=addI_eq (by omega) (by omega)
 simp only
 omega
theorem markEdgeS_snd (xs:List TEdge) (k:Int) (hk:0≤k) (hb:k+cntF_markEdgeS xs≤maxMark):(mkF_markEdgeS xs k).2=k+cntF_markEdgeS xs:=mkRow_snd cntE_markEdgeS_ok xs k hk hb
theorem markProgram_snd (x:TProgram) (k:Int) (hk:0≤k) (hb:k+cntF_markProgram x≤maxMark):(mkF_markProgram x k).2=k+cntF_markProgram x:=by
 unfold cntF_markProgram maxMark at *
 unfold mkF_markProgram
 have h0:=markStringS_snd x.vars k (by omega) (by unfold maxMark;omega)
 have h1:=markEdgeS_snd x.edges ((mkF_markStringS x.vars k).2) (by omega) (by unfold maxMark;omega)
 simp only
 omega
theorem cntE_markIntS_ok (x:Int) (k:Int) (hk:0≤k) (hb:k+cntE_markIntS x≤maxMark):(mkE_markIntS x k).2=k+cntE_markIntS x:=by
 unfold cntE_markIntS maxMark at *
 unfold mkE_markIntS
 have h0:addI k 1=k+1:=addI_eq (by omega) (by omega)
 simp only
 omega
theorem markIntS_snd (xs:List Int) (k:Int) (hk:0≤k) (hb:k+cntF_markIntS xs≤maxMark):(zaf xs k).2=k+cntF_markIntS xs:=mkRow_snd cntE_markIntS_ok xs k hk hb
theorem heldIntS_ok {xs:List Int} {k0:Int} (hl:Sm.lg xs) (hk:0≤k0) (hb:k0+cntF_markIntS xs≤maxMark):laws_heldIntS (zaf xs k0).1 k0=some (zaf xs k0).2:=by
 unfold laws_heldIntS
 have hlg:∀ x∈xs,Sm.lg x:=hl.2
 rw [held_row (ys:=(zaf xs k0).1) (E:=mkE_markIntS) (cnt:=cntE_markIntS) (xs:=xs) cntE_markIntS_ok (fun i x k hx0 hi hx hk hb=>?_) (fun k=>by simp [zaq]) rfl (by have:=hl.1;omega) hk hb]
 ·rfl
 ·have e0:at? (zaf xs k0).1 (i:Int)=some (mkE_markIntS x k).1:=by rw [at_nat];exact hx
  unfold cntE_markIntS maxMark at hb
  have h0:addI k 1=k+1:=addI_eq (by omega) (by omega)
  have hc:ltI (i:Int) ((zaf xs k0).1.length:Int)=true:=by simpa [ltI] using hi
  simp only [hc,e0,mkE_markIntS,cond_true,cond_false,Option.bind_some,neI,decide_true,Bool.not_true,]
theorem cntE_markHeapS_ok (x:THeap) (k:Int) (hk:0≤k) (hb:k+cntE_markHeapS x≤maxMark):(mkE_markHeapS x k).2=k+cntE_markHeapS x:=by
 unfold cntE_markHeapS maxMark at *
 unfold mkE_markHeapS
 have h0:=markIntS_snd x.vars k (by omega) (by unfold maxMark;omega)
 have h1:=markIntS_snd x.next ((zaf x.vars k).2) (by omega) (by unfold maxMark;omega)
 simp only
 omega
theorem markHeapS_snd (xs:List THeap) (k:Int) (hk:0≤k) (hb:k+cntF_markHeapS xs≤maxMark):(mkF_markHeapS xs k).2=k+cntF_markHeapS xs:=mkRow_snd cntE_markHeapS_ok xs k hk hb
theorem markHeap_snd (x:THeap) (k:Int) (hk:0≤k) (hb:k+cntF_markHeap x≤maxMark):(zan x k).2=k+cntF_markHeap x:=by
 unfold cntF_markHeap maxMark at *
 unfold zan
 have h0:=markIntS_snd x.vars k (by omega) (by unfold maxMark;omega)
 have h1:=markIntS_snd x.next ((zaf x.vars k).2) (by omega) (by unfold maxMark;omega)
 simp only
 omega
theorem heldHeap_ok {x:THeap} {k:Int} (hl:Sm.lg x) (hk:0≤k) (hb:k+cntF_markHeap x≤maxMark):laws_heldHeap (zan x k).1 k=some (zan x k).2:=by
 unfold cntF_markHeap maxMark at hb
 unfold laws_heldHeap zan
 have h0:=markIntS_snd x.vars k (by omega) (by unfold maxMark;omega)
 have w0:=heldIntS_ok (xs:=x.vars) (k0:=k) hl.1 (by omega) (by unfold maxMark;omega)
 have n0:ltI (zaf x.vars k).2 0=false:=by simp only [ltI,decide_eq_false_iff_not];omega
 have h1:=markIntS_snd x.next ((zaf x.vars k).2) (by omega) (by unfold maxMark;omega)
 have w1:=heldIntS_ok (xs:=x.next) (k0:=(zaf x.vars k).2) hl.2 (by omega) (by unfold maxMark;omega)
 have n1:ltI (zaf x.next ((zaf x.vars k).2)).2 0=false:=by simp only [ltI,decide_eq_false_iff_not];omega
 simp only [cond_false,Option.bind_some,w0,n0,w1,n1]
theorem markFailure_snd (x:TFailure) (k:Int) (hk:0≤k) (hb:k+cntF_markFailure x≤maxMark):(mkF_markFailure x k).2=k+cntF_markFailure x:=by
 unfold cntF_markFailure maxMark at *
 unfold mkF_markFailure
 have h0:=markHeap_snd x.heap k (by omega) (by unfold maxMark;omega)
 have h1:=markIntS_snd x.edges ((zan x.heap k).2) (by omega) (by unfold maxMark;omega)
 simp only
 omega
theorem heldFailure_ok {x:TFailure} {k:Int} (hl:Sm.lg x) (hk:0≤k) (hb:k+cntF_markFailure x≤maxMark):laws_heldFailure (mkF_markFailure x k).1 k=some (mkF_markFailure x k).2:=by
 unfold cntF_markFailure maxMark at hb
 unfold laws_heldFailure mkF_markFailure
 have h0:=markHeap_snd x.heap k (by omega) (by unfold maxMark;omega)
 have w0:=heldHeap_ok (x:=x.heap) (k:=k) hl.1 (by omega) (by unfold maxMark;omega)
 have n0:ltI (zan x.heap k).2 0=false:=by simp only [ltI,decide_eq_false_iff_not];omega
 have h1:=markIntS_snd x.edges ((zan x.heap k).2) (by omega) (by unfold maxMark;omega)
 have w1:=heldIntS_ok (xs:=x.edges) (k0:=(zan x.heap k).2) hl.2 (by omega) (by unfold maxMark;omega)
 have n1:ltI (zaf x.edges ((zan x.heap k).2)).2 0=false:=by simp only [ltI,decide_eq_false_iff_not];omega
 simp only [cond_false,Option.bind_some,w0,n0,w1,n1]
end Go.Ev


namespace Go.Ev
open Wf (wf)
open Sm (sm lg)
theorem alarm_ok (h:THeap) (es:List Int) (e code ae ac:Int) (hs:es.length≤1000):impl_firstFailure_1 ⟨h,es ++ [e],code⟩ ae ac [] [] [] 0 false=some (if e=ae∧code=ac then (false,h.vars,h.next,es ++ [e],code,true) else (true,[],[],[],0,false)):=by
 have hlen:((es ++ [e]).length:Int)=(es.length:Int)+1:=by simp
 have hat:at? (es ++ [e]) (subI (((es ++ [e]).length:Nat):Int) 1)=some e:=by
  rw [hlen,subI_eq (by omega) (by omega),show (es.length:Int)+1 - 1=((es.length:Nat):Int) by omega,at_nat]
  simp
 unfold impl_firstFailure_1 impl_ConfirmAlarm_1
 simp only [hat,Option.bind_some,cond_eq]
 by_cases h1:e=ae
 ·rw [if_pos h1]
  simp only [Option.bind_some,cond_eq,h1,true_and]
  by_cases h2:code=ac
  ·rw [if_pos h2,if_pos h2]
  ·rw [if_neg h2,if_neg h2]
   rfl
 ·rw [if_neg h1,if_neg (fun h=>h1 h.1)]
  rfl
theorem confirm_both (p:TProgram) (start:List THeap) (a:TAlarm) (hp:smP p) (hs:start.length≤1048576):∃ r:TFailure × Bool,spec_ConfirmAlarm p start a=some r∧impl_ConfirmAlarm p start a=some r∧tinyS ⟨0,r.1.heap⟩∧r.1.edges.length≤1000:=by
 obtain ⟨⟨m,ok⟩,e1,e2,e3⟩:=explore_c p start hp hs
 unfold spec_ConfirmAlarm impl_ConfirmAlarm spec_l27Find impl_firstFailure impl_failures
 rw [e1,e2,zaq]
 cases ok with
 | false =>
  refine ⟨(⟨⟨[],[]⟩,[],0⟩,false),?_,rfl,by simp [tinyS],by simp⟩
  split <;> rfl
 | true =>
  obtain ⟨hpr,hl,hR,hg⟩:=e3 rfl
  simp only at hl hR
  simp only [Option.bind_some,cond_true,if_true]
  by_cases hneg:a.edge < 0
  ·rw [if_pos hneg]
   obtain ⟨r,r',e4,e5,hS⟩:=find_out p start hp.1 (pr_edges hpr) _ m hR hl (spec_start p start hs hg) (p.edges.length:Int) 0 (fun f v n es c b=>impl_firstFailure_1 f a.edge a.code v n es c b) (fun h es e code hs h0 h1=>by
    show impl_firstFailure_1 ⟨h,es ++ [e],code⟩ a.edge a.code [] [] [] 0 false=_
    rw [alarm_ok h es e code a.edge a.code hs,if_neg (by omega),if_neg (by omega)])
   rw [e5]
   rcases hS with ⟨v,n,es,code,rfl,rfl,b1,b2,b3,b4⟩|⟨rfl,rfl⟩
   ·exact absurd b4 (by omega)
   ·exact ⟨_,rfl,rfl,by simp [tinyS],by simp⟩
  ·rw [if_neg hneg]
   obtain ⟨r,r',e4,e5,hS⟩:=find_out p start hp.1 (pr_edges hpr) _ m hR hl (spec_start p start hs hg) a.edge a.code (fun f v n es c b=>impl_firstFailure_1 f a.edge a.code v n es c b) (fun h es e code hs h0 h1=>by
    show impl_firstFailure_1 ⟨h,es ++ [e],code⟩ a.edge a.code [] [] [] 0 false=_
    rw [alarm_ok h es e code a.edge a.code hs]
    congr 1
    by_cases hc:e=a.edge∧code=a.code
    ·rw [if_pos hc,if_pos (.inr ⟨hc.1.symm,hc.2.symm⟩)]
    ·rw [if_neg hc,if_neg (by rintro (h4 | h4);exact hneg h4;exact hc ⟨h4.1.symm,h4.2.symm⟩)])
   rw [e4,e5]
   rcases hS with ⟨v,n,es,code,rfl,rfl,b1,b2,b3,_⟩|⟨rfl,rfl⟩
   ·exact ⟨_,rfl,rfl,⟨b1,b2⟩,b3⟩
   ·exact ⟨_,rfl,rfl,by simp [tinyS],by simp⟩
theorem cnt_strs' (xs:List ByteArray):cntF_markStringS xs≤xs.length * 1:=totC_le _ 1 xs fun x _=>Nat.le_refl _
theorem cnt_edges' (xs:List TEdge):cntF_markEdgeS xs≤xs.length * 5:=totC_le _ 5 xs fun x _=>Nat.le_refl _
theorem cnt_ints' (xs:List Int):cntF_markIntS xs≤xs.length * 1:=totC_le _ 1 xs fun x _=>Nat.le_refl _
theorem cnt_heaps' {xs:List THeap} (h:sm xs):cntF_markHeapS xs≤2200000000000:=by
 have:=totC_le cntE_markHeapS 2097154 xs fun x hx=>by
  have hx:=h.2 x hx
  unfold cntE_markHeapS
  have h1:=cnt_ints' x.vars
  have h2:=cnt_ints' x.next
  have:=hx.1.1
  have:=hx.2.1
  omega
 refine Nat.le_trans this (Nat.le_trans (Nat.mul_le_mul_right _ h.1) (by decide))
theorem law_ConfirmAlarm {p:TProgram} {start:List THeap} {a:TAlarm} (hp:wf p) (hs:wf start) (ha:wf a):laws_FnExactConfirmAlarm p start a=some true:=by
 unfold laws_FnExactConfirmAlarm
 obtain ⟨n,h1,h2,h3,h4⟩:=szProgram_ok hp (left:=1048576) (by omega)
 rw [h1,Option.bind_some,zaq]
 by_cases hn:n < 0
 ·rw [if_pos hn]
 ·rw [if_neg hn]
  have s1:=h3 (by omega)
  obtain ⟨m,k1,k2,k3,k4⟩:=szHeapS_ok hs (left:=n) (by omega)
  rw [k1,Option.bind_some,zaq]
  by_cases hm:m < 0
  ·rw [if_pos hm]
  ·rw [if_neg hm]
   have s2:=k3 (by omega)
   obtain ⟨r,e1,e2,ht,hl⟩:=confirm_both p start a (smP_of s1) s2.1
   have z3:r.1.heap.vars.length≤4:=ht.1
   have z4:r.1.heap.next.length≤7:=ht.2
   have hlg:lg r.1:=⟨⟨lg_ints (by omega),lg_ints (by omega)⟩,lg_ints (by omega)⟩
   have b1:=cnt_strs' p.vars
   have b2:=cnt_edges' p.edges
   have b3:=cnt_heaps' s2
   have b4:=cnt_ints' r.1.heap.vars
   have b5:=cnt_ints' r.1.heap.next
   have b6:=cnt_ints' r.1.edges
   have z1:=s1.1.1
   have z2:=s1.2.1
   have m1:=markProgram_snd p 1 (by omega) (by unfold cntF_markProgram maxMark;omega)
   have m2:=markHeapS_snd start (mkF_markProgram p 1).2 (by rw [m1];omega) (by rw [m1];unfold cntF_markProgram maxMark;omega)
   have m4:=markFailure_snd r.1 1 (by omega) (by unfold cntF_markFailure cntF_markHeap maxMark;omega)
   have w4:=heldFailure_ok hlg (k:=1) (by omega) (by unfold cntF_markFailure cntF_markHeap maxMark;omega)
   have q3:ltI (mkF_markHeapS start (mkF_markProgram p 1).2).2 0=false:=by simp only [ltI,decide_eq_false_iff_not];rw [m2,m1];omega
   have q4:ltI (mkF_markFailure r.1 1).2 0=false:=by simp only [ltI,decide_eq_false_iff_not];rw [m4];omega
   simp [toProgram_ok s1,toHeapS_ok s2,show laws_toAlarm a=some a from rfl,e1,e2,neI,neB,eqFailure_ok hlg,eqProgram_ok (sm_lg s1),eqHeapS_ok (sm_lg s2),markO_some (sm_lg s1),markO_some (sm_lg s2),markO_some hlg,q3,q4,w4]
end Go.Ev

