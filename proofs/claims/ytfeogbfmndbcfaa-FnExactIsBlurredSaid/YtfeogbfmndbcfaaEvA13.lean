import Derived.Test.YtfeogbfmndbcfaaEvA12
set_option linter.unusedSimpArgs false
set_option linter.unusedVariables false
set_option linter.unnecessarySimpa false
noncomputable section
set_option maxHeartbeats 4000000
set_option maxRecDepth 100000
namespace Go.Proofs
open Go.Ev
def C28:List AV→Option AV:=specP (X:=(List Int) × (List Int) × Unit) fun x=>laws_eqIntS x.1 x.2.1
theorem C28_eq {a_ b_} {y} (h:laws_eqIntS a_ b_=some y):C28 [av .shr a_,av .shr b_]=some (Res.res y):=zaf (x:=(a_,b_,())) h
def g28:Cfg:={ P:=Try.prog,take:=[],keep:=[((28,4),{ hd:=[0,1,5],bx:=[],ex:=[],rt:=[4] })],gho:=[],ctx:=[] }
@[simp] theorem g28_s:type_of% (cfg_s (g:=g28) rfl):=cfg_s rfl
theorem w28 {a_ b_} {y} (hp:laws_eqIntS a_ b_=some y):∃ m,callo g28 0 28 [av .shr a_,av .shr b_] mem0=some (Res.res y,m):=by
 refine st0 [.tmp 4] Try.func28 ?_
 unfold laws_eqIntS at hp
 simp [Try.f28]
 rcases zad hp with ⟨h_1,hp⟩|⟨h_1,hp⟩
 ·try simp at h_1
  cases hp
  simp [Goal,FnEnd,h_1]
 ·try simp at h_1
  try simp [h_1]
  obtain ⟨r_21,h_22,hp⟩:=zaa hp
  obtain ⟨I_4,I_4_⟩:=exV fun (s_2:Int) (σ:St)=>(σ.env 0=uL .shr a_∧σ.env 1=uL .shr b_∧σ.env 5=uI s_2)∧σ.mem=mem0
  obtain ⟨X_5,X_5_⟩:=exV fun (r_21:(Unit) ⊕ (Unit)) (out:Out)=>Sum.elim (fun r_21=>∃ σ:St,out=.ret σ∧σ.env 4=uB false∧σ.mem=mem0) (fun r_21=>∃ σ:St,out=.exit 0 σ∧σ.mem=mem0) r_21
  refine loopP ({ hd:=[0,1,5],bx:=[],ex:=[],rt:=[4] }) I_4 X_5 h_22 (by exact rfl) ?_ ?_ ?_
  ·rw [I_4_]
   exact ⟨by simp [zae,zab,h_1],by simp [zab,h_1]⟩
  ·intro s_2 σ_6 a_3 hI hp
   rw [I_4_] at hI
   obtain ⟨q_8,q_7⟩:=hI
   try simp [h_1,q_8,q_7]
   rcases zad hp with ⟨h_9,hp⟩|⟨h_9,hp⟩
   ·try simp at h_9
    obtain ⟨e_10,h_11,hp⟩:=zaa hp
    have b_12:=at_lo h_11
    have b_13:=at_hi h_11
    try simp at b_12 b_13
    have c_14:=seg_at' h_11 0 1 (by decide) (ds:=[.sc (.int .i64 e_10)]) rfl
    try simp at c_14
    obtain ⟨e_15,h_16,hp⟩:=zaa hp
    have b_17:=at_lo h_16
    have b_18:=at_hi h_16
    try simp at b_17 b_18
    have c_19:=seg_at' h_16 0 1 (by decide) (ds:=[.sc (.int .i64 e_15)]) rfl
    try simp at c_19
    try simp [h_1,q_8,q_7,h_9,b_12,b_13,c_14,b_17,b_18,c_19]
    rcases zad hp with ⟨h_20,hp⟩|⟨h_20,hp⟩
    ·try simp at h_20
     cases hp
     try simp [h_1,q_8,q_7,h_9,h_20]
     refine goal_outR ?_
     rw [X_5_]
     exact ⟨_,rfl,by simp [zae,zab,h_1,q_8,q_7,h_9,h_20],by simp [zab,h_1,q_8,q_7,h_9,h_20]⟩
    ·try simp at h_20
     cases hp
     try simp [h_1,q_8,q_7,h_9,h_20]
     refine goal_next ?_
     rw [I_4_]
     exact ⟨by simp [zae,zab,h_1,q_8,q_7,h_9,h_20],by simp [zab,h_1,q_8,q_7,h_9,h_20]⟩
   ·try simp at h_9
    cases hp
    try simp [h_1,q_8,q_7,h_9]
    refine goal_outX ?_
    rw [X_5_]
    exact ⟨_,rfl,by simp [zab,h_1,q_8,q_7,h_9]⟩
  ·intro out hX
   rw [X_5_] at hX
   rcases r_21 with r_21 | r_21
   ·simp only [Sum.elim_inl,Sum.elim_inr] at hX hp
    obtain ⟨σ_23,rfl,q_25,q_24⟩:=hX
    cases hp
    simp [Goal,FnEnd,h_1,q_25,q_24]
   ·simp only [Sum.elim_inl,Sum.elim_inr] at hX hp
    obtain ⟨σ_26,rfl,q_27⟩:=hX
    cases hp
    simp [Goal,FnEnd,h_1,q_27]
theorem pc28:PC Try.prog 28 C28:=pc_of (g:=g28) (zah [] rfl trivial) (ent Try.func28) fun x y h=>w28 h

def C56:List AV→Option AV:=specP (X:=TNode × TNode × Unit) fun x=>laws_eqNode x.1 x.2.1
theorem C56_eq {a_ b_} {y} (h:laws_eqNode a_ b_=some y):C56 [av .shr a_,av .shr b_]=some (Res.res y):=zaf (x:=(a_,b_,())) h
def g56:Cfg:={ P:=Try.prog,take:=[],keep:=[],gho:=[],ctx:=[(28,C28)] }
@[simp] theorem g56_s:type_of% (cfg_s (g:=g56) rfl):=cfg_s rfl
theorem w56 {a_ b_} {y} (hp:laws_eqNode a_ b_=some y):∃ m,callo g56 0 56 [av .shr a_,av .shr b_] mem0=some (Res.res y,m):=by
 refine st0 [.tmp 4] Try.func56 ?_
 unfold laws_eqNode at hp
 obtain ⟨y_1,h_2,hp⟩:=zaa hp
 have c_3:=C28_eq h_2
 simp at c_3
 simp [Try.f56,c_3]
 rcases zad hp with ⟨h_4,hp⟩|⟨h_4,hp⟩
 ·try simp at h_4
  obtain ⟨y_5,h_6,hp⟩:=zaa hp
  have c_7:=C28_eq h_6
  simp at c_7
  try simp [h_4,c_7]
  rcases zad hp with ⟨h_8,hp⟩|⟨h_8,hp⟩
  ·try simp at h_8
   try simp [h_4,h_8]
   rcases zad hp with ⟨h_9,hp⟩|⟨h_9,hp⟩
   ·try simp at h_9
    cases hp
    simp [Goal,FnEnd,h_4,h_8,h_9]
   ·try simp at h_9
    try simp [h_4,h_8,h_9]
    rcases zad hp with ⟨h_10,hp⟩|⟨h_10,hp⟩
    ·try simp at h_10
     cases hp
     simp [Goal,FnEnd,h_4,h_8,h_9,h_10]
    ·try simp at h_10
     cases hp
     simp [Goal,FnEnd,h_4,h_8,h_9,h_10]
  ·try simp at h_8
   cases hp
   simp [Goal,FnEnd,h_4,h_8]
 ·try simp at h_4
  cases hp
  simp [Goal,FnEnd,h_4]
theorem pc56:PC Try.prog 56 C56:=pc_of (g:=g56) (zah _ g56_s.2.1 ⟨pc28,trivial⟩) (ent Try.func56) fun x y h=>w56 h

def C27:List AV→Option AV:=specP (X:=(List TNode) × (List TNode) × Unit) fun x=>laws_eqNodeS x.1 x.2.1
theorem C27_eq {a_ b_} {y} (h:laws_eqNodeS a_ b_=some y):C27 [av .shr a_,av .shr b_]=some (Res.res y):=zaf (x:=(a_,b_,())) h
def g27:Cfg:={ P:=Try.prog,take:=[],keep:=[((27,4),{ hd:=[0,1,5],bx:=[],ex:=[],rt:=[4] })],gho:=[],ctx:=[(56,C56)] }
@[simp] theorem g27_s:type_of% (cfg_s (g:=g27) rfl):=cfg_s rfl
theorem w27 {a_ b_} {y} (hp:laws_eqNodeS a_ b_=some y):∃ m,callo g27 0 27 [av .shr a_,av .shr b_] mem0=some (Res.res y,m):=by
 refine st0 [.tmp 4] Try.func27 ?_
 unfold laws_eqNodeS at hp
 simp [Try.f27]
 rcases zad hp with ⟨h_1,hp⟩|⟨h_1,hp⟩
 ·try simp at h_1
  cases hp
  simp [Goal,FnEnd,h_1]
 ·try simp at h_1
  try simp [h_1]
  obtain ⟨r_24,h_25,hp⟩:=zaa hp
  obtain ⟨I_4,I_4_⟩:=exV fun (s_2:Int) (σ:St)=>(σ.env 0=uL .shr a_∧σ.env 1=uL .shr b_∧σ.env 5=uI s_2)∧σ.mem=mem0
  obtain ⟨X_5,X_5_⟩:=exV fun (r_24:(Unit) ⊕ (Unit)) (out:Out)=>Sum.elim (fun r_24=>∃ σ:St,out=.ret σ∧σ.env 4=uB false∧σ.mem=mem0) (fun r_24=>∃ σ:St,out=.exit 0 σ∧σ.mem=mem0) r_24
  refine loopP ({ hd:=[0,1,5],bx:=[],ex:=[],rt:=[4] }) I_4 X_5 h_25 (by exact rfl) ?_ ?_ ?_
  ·rw [I_4_]
   exact ⟨by simp [zae,zab,h_1],by simp [zab,h_1]⟩
  ·intro s_2 σ_6 a_3 hI hp
   rw [I_4_] at hI
   obtain ⟨q_8,q_7⟩:=hI
   try simp [h_1,q_8,q_7]
   rcases zad hp with ⟨h_9,hp⟩|⟨h_9,hp⟩
   ·try simp at h_9
    obtain ⟨e_10,h_11,hp⟩:=zaa hp
    have b_12:=at_lo h_11
    have b_13:=at_hi h_11
    try simp at b_12 b_13
    have c_14:=seg_at' h_11 0 4 (by decide) (ds:=[.sl e_10.vars.length (encL e_10.vars),.sl e_10.reach.length (encL e_10.reach),.sc (.int .i64 e_10.shared),.sc (.int .i64 e_10.many)]) rfl
    try simp at c_14
    obtain ⟨e_15,h_16,hp⟩:=zaa hp
    have b_17:=at_lo h_16
    have b_18:=at_hi h_16
    try simp at b_17 b_18
    have c_19:=seg_at' h_16 0 4 (by decide) (ds:=[.sl e_15.vars.length (encL e_15.vars),.sl e_15.reach.length (encL e_15.reach),.sc (.int .i64 e_15.shared),.sc (.int .i64 e_15.many)]) rfl
    try simp at c_19
    obtain ⟨y_20,h_21,hp⟩:=zaa hp
    have c_22:=C56_eq h_21
    simp at c_22
    try simp [h_1,q_8,q_7,h_9,b_12,b_13,c_14,b_17,b_18,c_19,c_22]
    rcases zad hp with ⟨h_23,hp⟩|⟨h_23,hp⟩
    ·try simp at h_23
     cases hp
     try simp [h_1,q_8,q_7,h_9,h_23]
     refine goal_next ?_
     rw [I_4_]
     exact ⟨by simp [zae,zab,h_1,q_8,q_7,h_9,h_23],by simp [zab,h_1,q_8,q_7,h_9,h_23]⟩
    ·try simp at h_23
     cases hp
     try simp [h_1,q_8,q_7,h_9,h_23]
     refine goal_outR ?_
     rw [X_5_]
     exact ⟨_,rfl,by simp [zae,zab,h_1,q_8,q_7,h_9,h_23],by simp [zab,h_1,q_8,q_7,h_9,h_23]⟩
   ·try simp at h_9
    cases hp
    try simp [h_1,q_8,q_7,h_9]
    refine goal_outX ?_
    rw [X_5_]
    exact ⟨_,rfl,by simp [zab,h_1,q_8,q_7,h_9]⟩
  ·intro out hX
   rw [X_5_] at hX
   rcases r_24 with r_24 | r_24
   ·simp only [Sum.elim_inl,Sum.elim_inr] at hX hp
    obtain ⟨σ_26,rfl,q_28,q_27⟩:=hX
    cases hp
    simp [Goal,FnEnd,h_1,q_28,q_27]
   ·simp only [Sum.elim_inl,Sum.elim_inr] at hX hp
    obtain ⟨σ_29,rfl,q_30⟩:=hX
    cases hp
    simp [Goal,FnEnd,h_1,q_30]
theorem pc27:PC Try.prog 27 C27:=pc_of (g:=g27) (zah _ g27_s.2.1 ⟨pc56,trivial⟩) (ent Try.func27) fun x y h=>w27 h

def C10:List AV→Option AV:=specP (X:=TStructure × TStructure × Unit) fun x=>laws_eqStructure x.1 x.2.1
theorem C10_eq {a_ b_} {y} (h:laws_eqStructure a_ b_=some y):C10 [av .shr a_,av .shr b_]=some (Res.res y):=zaf (x:=(a_,b_,())) h
def g10:Cfg:={ P:=Try.prog,take:=[],keep:=[],gho:=[],ctx:=[(27,C27),(28,C28)] }
@[simp] theorem g10_s:type_of% (cfg_s (g:=g10) rfl):=cfg_s rfl
theorem w10 {a_ b_} {y} (hp:laws_eqStructure a_ b_=some y):∃ m,callo g10 0 10 [av .shr a_,av .shr b_] mem0=some (Res.res y,m):=by
 refine st0 [.tmp 4] Try.func10 ?_
 unfold laws_eqStructure at hp
 obtain ⟨y_1,h_2,hp⟩:=zaa hp
 have c_3:=C27_eq h_2
 simp at c_3
 simp [Try.f10,c_3]
 rcases zad hp with ⟨h_4,hp⟩|⟨h_4,hp⟩
 ·try simp at h_4
  obtain ⟨y_5,h_6,hp⟩:=zaa hp
  have c_7:=C28_eq h_6
  simp at c_7
  try simp [h_4,c_7]
  rcases zad hp with ⟨h_8,hp⟩|⟨h_8,hp⟩
  ·try simp at h_8
   cases hp
   simp [Goal,FnEnd,h_4,h_8]
  ·try simp at h_8
   cases hp
   simp [Goal,FnEnd,h_4,h_8]
 ·try simp at h_4
  cases hp
  simp [Goal,FnEnd,h_4]
theorem pc10:PC Try.prog 10 C10:=pc_of (g:=g10) (zah _ g10_s.2.1 ⟨pc27,pc28,trivial⟩) (ent Try.func10) fun x y h=>w10 h

def C46:List AV→Option AV:=specP (X:=(List Int) × Int × Unit) fun x=>laws_heldIntS x.1 x.2.1
def g46:Cfg:={ P:=Try.prog,take:=[],keep:=[((46,2),{ hd:=[0,1,5],bx:=[],ex:=[1],rt:=[4] })],gho:=[],ctx:=[] }
@[simp] theorem g46_s:type_of% (cfg_s (g:=g46) rfl):=cfg_s rfl
def C45:List AV→Option AV:=specP (X:=(List TNode) × Int × Unit) fun x=>laws_heldNodeS x.1 x.2.1
def g45:Cfg:={ P:=Try.prog,take:=[],keep:=[((45,2),{ hd:=[0,1,5],bx:=[],ex:=[1],rt:=[4] })],gho:=[],ctx:=[(46,C46)] }
@[simp] theorem g45_s:type_of% (cfg_s (g:=g45) rfl):=cfg_s rfl
def C14:List AV→Option AV:=specP (X:=TStructure × Int × Unit) fun x=>laws_heldStructure x.1 x.2.1
theorem C14_eq {a_ k_} {y} (h:laws_heldStructure a_ k_=some y):C14 [av .shr a_,av .shr k_]=some (Res.res y):=zaf (x:=(a_,k_,())) h
def g14:Cfg:={ P:=Try.prog,take:=[],keep:=[],gho:=[],ctx:=[(45,C45),(46,C46)] }
@[simp] theorem g14_s:type_of% (cfg_s (g:=g14) rfl):=cfg_s rfl
def g4:Cfg:={ P:=Try.prog,take:=[],keep:=[((43,2),rowKp),((44,2),rowKp)],gho:=[((4,13),[.many (thawBox 1 5)]),((4,2000013),[.many (frzBox 1 5)]),((4,17),[.many (thawBox 1 6)]),((4,2000017),[.many (frzBox 1 6)])],ctx:=[(6,C6),(8,C8),(10,C10),(11,C11),(12,C12),(14,C14)] }
@[simp] theorem g4_s:type_of% (cfg_s (g:=g4) rfl):=cfg_s rfl
theorem w4 {aS} {y} (hp:laws_FnExactBlur aS=some y):∃ m,callo g4 0 4 [av .shr aS] mem0=some (Res.res y,m):=by
 have G_13:G13 g4:=⟨rfl,by kernel_rfl,rfl,fun t=>by simp,noAway (fun t=>by simp) (by simp) (fun t=>by simp),by simp [lookN],fun i=>by simp [lookK],by simp [g4,lookK],by simp⟩
 have G_43:G43 g4:=⟨rfl,by kernel_rfl,rfl,fun t=>by simp,noAway (fun t=>by simp) (by simp) (fun t=>by simp),by simp [lookN],fun i=>by simp [lookK],by simp [g4,lookK],by simp⟩
 have G_44:G44 g4:=⟨rfl,by kernel_rfl,rfl,fun t=>by simp,noAway (fun t=>by simp) (by simp) (fun t=>by simp),by simp [lookN],fun i=>by simp [lookK],by simp [g4,lookK],by simp⟩
 refine st0 [.tmp 2] Try.func4 ?_
 unfold laws_FnExactBlur at hp
 obtain ⟨y_1,h_2,hp⟩:=zaa hp
 have c_3:=C6_eq h_2
 simp at c_3
 simp [Try.f4,c_3]
 rcases zad hp with ⟨h_4,hp⟩|⟨h_4,hp⟩
 ·try simp at h_4
  cases hp
  simp [Goal,FnEnd,h_4]
 ·try simp at h_4
  obtain ⟨y_5,h_6,hp⟩:=zaa hp
  have c_7:=C8_eq h_6
  simp at c_7
  obtain ⟨y_8,h_9,hp⟩:=zaa hp
  have c_10:=C11_eq h_9
  simp at c_10
  obtain ⟨y_11,h_12,hp⟩:=zaa hp
  cases Option.some.inj (h_6.symm.trans h_12)
  obtain ⟨y_13,h_14,hp⟩:=zaa hp
  have c_15:=C12_eq h_14
  simp at c_15
  obtain ⟨y_16,h_17,hp⟩:=zaa hp
  have c_18:=C10_eq h_17
  simp at c_18
  try simp [h_4,c_7,c_10,c_7,c_15,c_18]
  rcases zad hp with ⟨h_19,hp⟩|⟨h_19,hp⟩
  ·try simp at h_19
   obtain ⟨y_20,h_21,hp⟩:=zaa hp
   cases Option.some.inj (h_6.symm.trans h_21)
   obtain ⟨y_22,h_23,hp⟩:=zaa hp
   have c_24:=C10_eq h_23
   simp at c_24
   try simp [h_4,h_19,c_7,c_24]
   rcases zad hp with ⟨h_25,hp⟩|⟨h_25,hp⟩
   ·try simp at h_25
    obtain ⟨r_26,h_27,hp⟩:=zaa hp
    obtain ⟨lg_28,e_29⟩:=markO_eq h_27
    have mk_30:=mk13 G_13 G_43 G_44 y_5 1 lg_28
    rw [e_29] at mk_30
    try simp [h_4,h_19,h_25]
    refine goal_markB 5 5 7 32 33 34 13 mk_30 (show ti g4.P 30=some _ from ti_30) rfl rfl (by decide) (by simp [h_4,h_19,h_25]) (by simp [h_4,h_19,h_25]) (by simp [h_4,h_19,h_25]) (WfE.wfE _) (WfE.wfE _) (fun key hkey=>by simp [mem0,key_low hkey 1 1 (by decide),key_low hkey 1 4 (by decide),key_low hkey 1 5 (by decide),key_low hkey 1 6 (by decide),h_4,h_19,h_25]) (by simp) (by simp) (by simp) rfl (by decide) fun σ_31 qq_32 hq_33 hx_34 hk_35 he_36 hd_37 hm_38=>?_
    obtain ⟨q_39,q_40,q_41,q_42,q_43,q_44,q_45,q_46⟩:σ_31.env 1=uP (1,1)∧σ_31.env 4=uP (1,4)∧σ_31.env 6=uP (1,6)∧σ_31.env 7=uI r_26.2∧σ_31.mem (1,1)=some [cL .shr aS.nodes,cL .shr aS.next]∧σ_31.mem (1,4)=some [cL .own y_8.nodes,cL .own y_8.next]∧σ_31.mem (1,5)=some [cL .own r_26.1.nodes,cL .own r_26.1.next]∧σ_31.mem (1,6)=some [cL .own y_13.nodes,cL .own y_13.next]:=by refine ⟨(he_36 1 (by decide) (by decide) (by decide) (by decide)).trans ?_,(he_36 4 (by decide) (by decide) (by decide) (by decide)).trans ?_,(he_36 6 (by decide) (by decide) (by decide) (by decide)).trans ?_,hk_35,(hm_38 (1,1) (by decide) (by decide) (by decide)).trans ?_,(hm_38 (1,4) (by decide) (by decide) (by decide)).trans ?_,hx_34.trans (by simp),(hm_38 (1,6) (by decide) (by decide) (by decide)).trans ?_⟩ <;> simp [h_4,h_19,h_25,hq_33 (1,1) (by decide) (by decide),hq_33 (1,4) (by decide) (by decide),hq_33 (1,5) (by decide) (by decide),hq_33 (1,6) (by decide) (by decide)]
    have hn_47:NoBox [(1,1),(1,4),(1,5),(1,6)] σ_31.mem:=by
     intro key hk
     by_cases hl:1 < key.1∨bigK≤key.2
     ·exact hd_37 key hl
     ·rw [hm_38 key (by rintro rfl;simp at hk) (by omega) (by omega)]
      simp at hk
      simp [mem0,hk,h_4,h_19,h_25]
    try simp [h_4,h_19,h_25,q_39,q_40,q_41,q_42,q_43,q_44,q_45,q_46]
    rcases zad hp with ⟨h_48,hp⟩|⟨h_48,hp⟩
    ·try simp at h_48
     cases hp
     simp [Goal,FnEnd,h_4,h_19,h_25,q_39,q_40,q_41,q_42,q_43,q_44,q_45,q_46,h_48]
    ·try simp at h_48
     obtain ⟨y_49,h_50,hp⟩:=zaa hp
     have c_51:=C10_eq h_50
     simp at c_51
     try simp [h_4,h_19,h_25,q_39,q_40,q_41,q_42,q_43,q_44,q_45,q_46,h_48,c_51]
     rcases zad hp with ⟨h_52,hp⟩|⟨h_52,hp⟩
     ·try simp at h_52
      obtain ⟨r_53,h_54,hp⟩:=zaa hp
      obtain ⟨lg_55,e_56⟩:=markO_eq h_54
      have mk_57:=mk13 G_13 G_43 G_44 y_13 1 lg_55
      rw [e_56] at mk_57
      try simp [h_4,h_19,h_25,q_39,q_40,q_41,q_42,q_43,q_44,q_45,q_46,h_48,h_52]
      refine goal_markB 6 6 8 43 44 45 13 mk_57 (show ti g4.P 30=some _ from ti_30) rfl rfl (by decide) (by simp [h_4,h_19,h_25,q_39,q_40,q_41,q_42,q_43,q_44,q_45,q_46,h_48,h_52]) (by simp [h_4,h_19,h_25,q_39,q_40,q_41,q_42,q_43,q_44,q_45,q_46,h_48,h_52]) (by simp [h_4,h_19,h_25,q_39,q_40,q_41,q_42,q_43,q_44,q_45,q_46,h_48,h_52]) (WfE.wfE _) (WfE.wfE _) (fun key hkey=>by simp [mem0,key_low hkey 1 1 (by decide),key_low hkey 1 4 (by decide),key_low hkey 1 5 (by decide),key_low hkey 1 6 (by decide),h_4,h_19,h_25,q_39,q_40,q_41,q_42,q_43,q_44,q_45,q_46,h_48,h_52,hn_47 key (by simp [key_low hkey 1 1 (by decide),key_low hkey 1 4 (by decide),key_low hkey 1 5 (by decide),key_low hkey 1 6 (by decide)])]) (by simp) (by simp) (by simp) rfl (by decide) fun σ_58 qq_59 hq_60 hx_61 hk_62 he_63 hd_64 hm_65=>?_
      obtain ⟨q_66,q_67,q_68,q_69,q_70,q_71,q_72,q_73⟩:σ_58.env 1=uP (1,1)∧σ_58.env 4=uP (1,4)∧σ_58.env 6=uP (1,6)∧σ_58.env 8=uI r_53.2∧σ_58.mem (1,1)=some [cL .shr aS.nodes,cL .shr aS.next]∧σ_58.mem (1,4)=some [cL .own y_8.nodes,cL .own y_8.next]∧σ_58.mem (1,5)=some [cL .own r_26.1.nodes,cL .own r_26.1.next]∧σ_58.mem (1,6)=some [cL .own r_53.1.nodes,cL .own r_53.1.next]:=by refine ⟨(he_63 1 (by decide) (by decide) (by decide) (by decide)).trans ?_,(he_63 4 (by decide) (by decide) (by decide) (by decide)).trans ?_,(he_63 6 (by decide) (by decide) (by decide) (by decide)).trans ?_,hk_62,(hm_65 (1,1) (by decide) (by decide) (by decide)).trans ?_,(hm_65 (1,4) (by decide) (by decide) (by decide)).trans ?_,(hm_65 (1,5) (by decide) (by decide) (by decide)).trans ?_,hx_61.trans (by simp)⟩ <;> simp [h_4,h_19,h_25,q_39,q_40,q_41,q_42,q_43,q_44,q_45,q_46,h_48,h_52,hq_60 (1,1) (by decide) (by decide),hq_60 (1,4) (by decide) (by decide),hq_60 (1,5) (by decide) (by decide),hq_60 (1,6) (by decide) (by decide)]
      have hn_74:NoBox [(1,1),(1,4),(1,5),(1,6)] σ_58.mem:=by
       intro key hk
       by_cases hl:1 < key.1∨bigK≤key.2
       ·exact hd_64 key hl
       ·rw [hm_65 key (by rintro rfl;simp at hk) (by omega) (by omega)]
        simp at hk
        simp [mem0,hk,h_4,h_19,h_25,q_39,q_40,q_41,q_42,q_43,q_44,q_45,q_46,h_48,h_52,hn_47 key (by simp [hk])]
      obtain ⟨y_75,h_76,hp⟩:=zaa hp
      have c_77:=C14_eq h_76
      simp at c_77
      try simp [h_4,h_19,h_25,h_48,h_52,q_66,q_67,q_68,q_69,q_70,q_71,q_72,q_73,c_77]
      rcases zad hp with ⟨h_78,hp⟩|⟨h_78,hp⟩
      ·try simp at h_78
       cases hp
       simp [Goal,FnEnd,h_4,h_19,h_25,h_48,h_52,q_66,q_67,q_68,q_69,q_70,q_71,q_72,q_73,h_78]
      ·try simp at h_78
       try simp [h_4,h_19,h_25,h_48,h_52,q_66,q_67,q_68,q_69,q_70,q_71,q_72,q_73,h_78]
       rcases zad hp with ⟨h_79,hp⟩|⟨h_79,hp⟩
       ·try simp at h_79
        cases hp
        simp [Goal,FnEnd,h_4,h_19,h_25,h_48,h_52,q_66,q_67,q_68,q_69,q_70,q_71,q_72,q_73,h_78,h_79]
       ·try simp at h_79
        obtain ⟨y_80,h_81,hp⟩:=zaa hp
        have c_82:=C8_eq h_81
        simp at c_82
        obtain ⟨y_83,h_84,hp⟩:=zaa hp
        have c_85:=C12_eq h_84
        simp at c_85
        have n_86:=hn_74 (1,10) (by simp)
        obtain ⟨y_87,h_88,hp⟩:=zaa hp
        have c_89:=C10_eq h_88
        simp at c_89
        try simp [h_4,h_19,h_25,h_48,h_52,q_66,q_67,q_68,q_69,q_70,q_71,q_72,q_73,h_78,h_79,c_82,c_85,n_86,c_89]
        rcases zad hp with ⟨h_90,hp⟩|⟨h_90,hp⟩
        ·try simp at h_90
         obtain ⟨y_91,h_92,hp⟩:=zaa hp
         cases Option.some.inj (h_76.symm.trans h_92)
         cases hp
         simp [Goal,FnEnd,h_4,h_19,h_25,h_48,h_52,q_66,q_67,q_68,q_69,q_70,q_71,q_72,q_73,h_78,h_79,h_90,c_77]
        ·try simp at h_90
         cases hp
         simp [Goal,FnEnd,h_4,h_19,h_25,h_48,h_52,q_66,q_67,q_68,q_69,q_70,q_71,q_72,q_73,h_78,h_79,h_90]
     ·try simp at h_52
      cases hp
      simp [Goal,FnEnd,h_4,h_19,h_25,q_39,q_40,q_41,q_42,q_43,q_44,q_45,q_46,h_48,h_52]
   ·try simp at h_25
    cases hp
    simp [Goal,FnEnd,h_4,h_19,h_25]
  ·try simp at h_19
   cases hp
   simp [Goal,FnEnd,h_4,h_19]
def C50:List AV→Option AV:=specP (X:=(List Int) × (List Int) × Unit) fun x=>spec_l7Same x.1 x.2.1
theorem C50_eq {a_ b_} {y} (h:spec_l7Same a_ b_=some y):C50 [av .shr a_,av .shr b_]=some (Res.res y):=zaf (x:=(a_,b_,())) h
def g50:Cfg:={ P:=Try.prog,take:=[],keep:=[((50,4),{ hd:=[0,1,5],bx:=[],ex:=[],rt:=[4] })],gho:=[],ctx:=[] }
@[simp] theorem g50_s:type_of% (cfg_s (g:=g50) rfl):=cfg_s rfl
theorem w50 {a_ b_} {y} (hp:spec_l7Same a_ b_=some y):∃ m,callo g50 0 50 [av .shr a_,av .shr b_] mem0=some (Res.res y,m):=by
 refine st0 [.tmp 4] Try.func50 ?_
 unfold spec_l7Same at hp
 simp [Try.f50]
 rcases zad hp with ⟨h_1,hp⟩|⟨h_1,hp⟩
 ·try simp at h_1
  cases hp
  simp [Goal,FnEnd,h_1]
 ·try simp at h_1
  try simp [h_1]
  obtain ⟨r_21,h_22,hp⟩:=zaa hp
  obtain ⟨I_4,I_4_⟩:=exV fun (s_2:Int) (σ:St)=>(σ.env 0=uL .shr a_∧σ.env 1=uL .shr b_∧σ.env 5=uI s_2)∧σ.mem=mem0
  obtain ⟨X_5,X_5_⟩:=exV fun (r_21:(Unit) ⊕ (Unit)) (out:Out)=>Sum.elim (fun r_21=>∃ σ:St,out=.ret σ∧σ.env 4=uB false∧σ.mem=mem0) (fun r_21=>∃ σ:St,out=.exit 0 σ∧σ.mem=mem0) r_21
  refine loopP ({ hd:=[0,1,5],bx:=[],ex:=[],rt:=[4] }) I_4 X_5 h_22 (by exact rfl) ?_ ?_ ?_
  ·rw [I_4_]
   exact ⟨by simp [zae,zab,h_1],by simp [zab,h_1]⟩
  ·intro s_2 σ_6 a_3 hI hp
   rw [I_4_] at hI
   obtain ⟨q_8,q_7⟩:=hI
   try simp [h_1,q_8,q_7]
   rcases zad hp with ⟨h_9,hp⟩|⟨h_9,hp⟩
   ·try simp at h_9
    obtain ⟨e_10,h_11,hp⟩:=zaa hp
    have b_12:=at_lo h_11
    have b_13:=at_hi h_11
    try simp at b_12 b_13
    have c_14:=seg_at' h_11 0 1 (by decide) (ds:=[.sc (.int .i64 e_10)]) rfl
    try simp at c_14
    obtain ⟨e_15,h_16,hp⟩:=zaa hp
    have b_17:=at_lo h_16
    have b_18:=at_hi h_16
    try simp at b_17 b_18
    have c_19:=seg_at' h_16 0 1 (by decide) (ds:=[.sc (.int .i64 e_15)]) rfl
    try simp at c_19
    try simp [h_1,q_8,q_7,h_9,b_12,b_13,c_14,b_17,b_18,c_19]
    rcases zad hp with ⟨h_20,hp⟩|⟨h_20,hp⟩
    ·try simp at h_20
     cases hp
     try simp [h_1,q_8,q_7,h_9,h_20]
     refine goal_outR ?_
     rw [X_5_]
     exact ⟨_,rfl,by simp [zae,zab,h_1,q_8,q_7,h_9,h_20],by simp [zab,h_1,q_8,q_7,h_9,h_20]⟩
    ·try simp at h_20
     cases hp
     try simp [h_1,q_8,q_7,h_9,h_20]
     refine goal_next ?_
     rw [I_4_]
     exact ⟨by simp [zae,zab,h_1,q_8,q_7,h_9,h_20],by simp [zab,h_1,q_8,q_7,h_9,h_20]⟩
   ·try simp at h_9
    cases hp
    try simp [h_1,q_8,q_7,h_9]
    refine goal_outX ?_
    rw [X_5_]
    exact ⟨_,rfl,by simp [zab,h_1,q_8,q_7,h_9]⟩
  ·intro out hX
   rw [X_5_] at hX
   rcases r_21 with r_21 | r_21
   ·simp only [Sum.elim_inl,Sum.elim_inr] at hX hp
    obtain ⟨σ_23,rfl,q_25,q_24⟩:=hX
    cases hp
    simp [Goal,FnEnd,h_1,q_25,q_24]
   ·simp only [Sum.elim_inl,Sum.elim_inr] at hX hp
    obtain ⟨σ_26,rfl,q_27⟩:=hX
    cases hp
    simp [Goal,FnEnd,h_1,q_27]
theorem pc50:PC Try.prog 50 C50:=pc_of (g:=g50) (zah [] rfl trivial) (ent Try.func50) fun x y h=>w50 h

def C51:List AV→Option AV:=specP (X:=TNode × TNode × Unit) fun x=>spec_l12SameNode x.1 x.2.1
theorem C51_eq {a_ b_} {y} (h:spec_l12SameNode a_ b_=some y):C51 [av .shr a_,av .shr b_]=some (Res.res y):=zaf (x:=(a_,b_,())) h
def g51:Cfg:={ P:=Try.prog,take:=[],keep:=[],gho:=[],ctx:=[(50,C50)] }
@[simp] theorem g51_s:type_of% (cfg_s (g:=g51) rfl):=cfg_s rfl
theorem w51 {a_ b_} {y} (hp:spec_l12SameNode a_ b_=some y):∃ m,callo g51 0 51 [av .shr a_,av .shr b_] mem0=some (Res.res y,m):=by
 refine st0 [.tmp 4] Try.func51 ?_
 unfold spec_l12SameNode at hp
 obtain ⟨y_1,h_2,hp⟩:=zaa hp
 have c_3:=C50_eq h_2
 simp at c_3
 simp [Try.f51,c_3]
 rcases zad hp with ⟨h_4,hp⟩|⟨h_4,hp⟩
 ·try simp at h_4
  obtain ⟨y_5,h_6,hp⟩:=zaa hp
  have c_7:=C50_eq h_6
  simp at c_7
  try simp [h_4,c_7]
  rcases zad hp with ⟨h_8,hp⟩|⟨h_8,hp⟩
  ·try simp at h_8
   try simp [h_4,h_8]
   rcases zad hp with ⟨h_9,hp⟩|⟨h_9,hp⟩
   ·try simp at h_9
    cases hp
    simp [Goal,FnEnd,h_4,h_8,h_9]
   ·try simp at h_9
    cases hp
    simp [Goal,FnEnd,h_4,h_8,h_9]
  ·try simp at h_8
   cases hp
   simp [Goal,FnEnd,h_4,h_8]
 ·try simp at h_4
  cases hp
  simp [Goal,FnEnd,h_4]
theorem pc51:PC Try.prog 51 C51:=pc_of (g:=g51) (zah _ g51_s.2.1 ⟨pc50,trivial⟩) (ent Try.func51) fun x y h=>w51 h

def C23:List AV→Option AV:=specP (X:=TStructure × TStructure × Unit) fun x=>spec_EqualStructure x.1 x.2.1
theorem C23_eq {a_ b_} {y} (h:spec_EqualStructure a_ b_=some y):C23 [av .shr a_,av .shr b_]=some (Res.res y):=zaf (x:=(a_,b_,())) h
def g23:Cfg:={ P:=Try.prog,take:=[],keep:=[((23,4),{ hd:=[2,3,5],bx:=[],ex:=[],rt:=[4] })],gho:=[],ctx:=[(50,C50),(51,C51)] }
@[simp] theorem g23_s:type_of% (cfg_s (g:=g23) rfl):=cfg_s rfl
theorem w23 {a_ b_} {y} (hp:spec_EqualStructure a_ b_=some y):∃ m,callo g23 0 23 [av .shr a_,av .shr b_] mem0=some (Res.res y,m):=by
 refine st0 [.tmp 4] Try.func23 ?_
 unfold spec_EqualStructure at hp
 simp [Try.f23]
 rcases zad hp with ⟨h_1,hp⟩|⟨h_1,hp⟩
 ·try simp at h_1
  cases hp
  simp [Goal,FnEnd,h_1]
 ·try simp at h_1
  obtain ⟨y_2,h_3,hp⟩:=zaa hp
  have c_4:=C50_eq h_3
  simp at c_4
  try simp [h_1,c_4]
  rcases zad hp with ⟨h_5,hp⟩|⟨h_5,hp⟩
  ·try simp at h_5
   try simp [h_1,h_5]
   obtain ⟨r_28,h_29,hp⟩:=zaa hp
   obtain ⟨I_8,I_8_⟩:=exV fun (s_6:Int) (σ:St)=>(σ.env 2=uP (1,2)∧σ.env 3=uP (1,3)∧σ.env 5=uI s_6∧σ.mem (1,2)=some [cL .shr a_.nodes,cL .shr a_.next]∧σ.mem (1,3)=some [cL .shr b_.nodes,cL .shr b_.next])∧NoBox [(1,2),(1,3)] σ.mem
   obtain ⟨X_9,X_9_⟩:=exV fun (r_28:(Unit) ⊕ (Unit)) (out:Out)=>Sum.elim (fun r_28=>∃ σ:St,out=.ret σ∧(σ.env 4=uB false∧σ.mem (1,2)=some [cL .shr a_.nodes,cL .shr a_.next]∧σ.mem (1,3)=some [cL .shr b_.nodes,cL .shr b_.next])∧NoBox [(1,2),(1,3)] σ.mem) (fun r_28=>∃ σ:St,out=.exit 0 σ∧(σ.mem (1,2)=some [cL .shr a_.nodes,cL .shr a_.next]∧σ.mem (1,3)=some [cL .shr b_.nodes,cL .shr b_.next])∧NoBox [(1,2),(1,3)] σ.mem) r_28
   refine loopP ({ hd:=[2,3,5],bx:=[],ex:=[],rt:=[4] }) I_8 X_9 h_29 (by exact rfl) ?_ ?_ ?_
   ·rw [I_8_]
    exact ⟨by simp [zae,zab,h_1,h_5],NoBox.restrict (by intro k hk hb;simp at hk hb;simp [hk,hb,h_1,h_5])⟩
   ·intro s_6 σ_10 a_7 hI hp
    rw [I_8_] at hI
    obtain ⟨q_12,hn_11⟩:=hI
    try simp [h_1,h_5,q_12]
    rcases zad hp with ⟨h_13,hp⟩|⟨h_13,hp⟩
    ·try simp at h_13
     obtain ⟨e_14,h_15,hp⟩:=zaa hp
     have b_16:=at_lo h_15
     have b_17:=at_hi h_15
     try simp at b_16 b_17
     have c_18:=seg_at' h_15 0 4 (by decide) (ds:=[.sl e_14.vars.length (encL e_14.vars),.sl e_14.reach.length (encL e_14.reach),.sc (.int .i64 e_14.shared),.sc (.int .i64 e_14.many)]) rfl
     try simp at c_18
     obtain ⟨e_19,h_20,hp⟩:=zaa hp
     have b_21:=at_lo h_20
     have b_22:=at_hi h_20
     try simp at b_21 b_22
     have c_23:=seg_at' h_20 0 4 (by decide) (ds:=[.sl e_19.vars.length (encL e_19.vars),.sl e_19.reach.length (encL e_19.reach),.sc (.int .i64 e_19.shared),.sc (.int .i64 e_19.many)]) rfl
     try simp at c_23
     obtain ⟨y_24,h_25,hp⟩:=zaa hp
     have c_26:=C51_eq h_25
     simp at c_26
     try simp [h_1,h_5,q_12,h_13,b_16,b_17,c_18,b_21,b_22,c_23,c_26]
     rcases zad hp with ⟨h_27,hp⟩|⟨h_27,hp⟩
     ·try simp at h_27
      cases hp
      try simp [h_1,h_5,q_12,h_13,h_27]
      refine goal_next ?_
      rw [I_8_]
      exact ⟨by simp [zae,zab,h_1,h_5,q_12,h_13,h_27],NoBox.restrict (by intro k hk hb;simp at hk hb;simp [hk,hb,h_1,h_5,q_12,h_13,h_27,hn_11 k (by simp [hk,hb])])⟩
     ·try simp at h_27
      cases hp
      try simp [h_1,h_5,q_12,h_13,h_27]
      refine goal_outR ?_
      rw [X_9_]
      exact ⟨_,rfl,by simp [zae,zab,h_1,h_5,q_12,h_13,h_27],NoBox.restrict (by intro k hk hb;simp at hk hb;simp [hk,hb,h_1,h_5,q_12,h_13,h_27,hn_11 k (by simp [hk,hb])])⟩
    ·try simp at h_13
     cases hp
     try simp [h_1,h_5,q_12,h_13]
     refine goal_outX ?_
     rw [X_9_]
     exact ⟨_,rfl,by simp [zae,zab,h_1,h_5,q_12,h_13],NoBox.restrict (by intro k hk hb;simp at hk hb;simp [hk,hb,h_1,h_5,q_12,h_13,hn_11 k (by simp [hk,hb])])⟩
   ·intro out hX
    rw [X_9_] at hX
    rcases r_28 with r_28 | r_28
    ·simp only [Sum.elim_inl,Sum.elim_inr] at hX hp
     obtain ⟨σ_30,rfl,q_32,hn_31⟩:=hX
     cases hp
     simp [Goal,FnEnd,h_1,h_5,q_32]
    ·simp only [Sum.elim_inl,Sum.elim_inr] at hX hp
     obtain ⟨σ_33,rfl,q_35,hn_34⟩:=hX
     cases hp
     simp [Goal,FnEnd,h_1,h_5,q_35]
  ·try simp at h_5
   cases hp
   simp [Goal,FnEnd,h_1,h_5]
theorem pc23:PC Try.prog 23 C23:=pc_of (g:=g23) (zah _ g23_s.2.1 ⟨pc50,pc51,trivial⟩) (ent Try.func23) fun x y h=>w23 h

def C7:List AV→Option AV:=specP (X:=TStructure × Unit) fun x=>spec_IsBlurred x.1
theorem C7_eq {s} {y} (h:spec_IsBlurred s=some y):C7 [av .shr s]=some (Res.res y):=zaf (x:=(s,())) h
def g7:Cfg:={ P:=Try.prog,take:=[],keep:=[],gho:=[],ctx:=[(11,C11),(23,C23)] }
@[simp] theorem g7_s:type_of% (cfg_s (g:=g7) rfl):=cfg_s rfl
theorem w7 {s} {y} (hp:spec_IsBlurred s=some y):∃ m,callo g7 0 7 [av .shr s] mem0=some (Res.res y,m):=by
 refine st0 [.tmp 2] Try.func7 ?_
 unfold spec_IsBlurred at hp
 obtain ⟨y_1,h_2,hp⟩:=zaa hp
 have c_3:=C11_eq h_2
 simp at c_3
 obtain ⟨y_4,h_5,hp⟩:=zaa hp
 have c_6:=C23_eq h_5
 simp at c_6
 cases hp
 simp [Try.f7,Goal,FnEnd,c_3,c_6]
theorem pc7:PC Try.prog 7 C7:=pc_of (g:=g7) (zah _ g7_s.2.1 ⟨pc11,pc23,trivial⟩) (ent Try.func7) fun x y h=>w7 h

def C53:List AV→Option AV:=specP (X:=(List Int) × (List Int) × Unit) fun x=>slices_Equal_int x.1 x.2.1
theorem C53_eq {s1 s2} {y} (h:slices_Equal_int s1 s2=some y):C53 [av .shr s1,av .shr s2]=some (Res.res y):=zaf (x:=(s1,s2,())) h
def g53:Cfg:={ P:=Try.prog,take:=[],keep:=[((53,4),{ hd:=[0,1,12,13],bx:=[],ex:=[],rt:=[4] })],gho:=[],ctx:=[] }
@[simp] theorem g53_s:type_of% (cfg_s (g:=g53) rfl):=cfg_s rfl
theorem w53 {s1 s2} {y} (hp:slices_Equal_int s1 s2=some y):∃ m,callo g53 0 53 [av .shr s1,av .shr s2] mem0=some (Res.res y,m):=by
 refine st0 [.tmp 4] Try.func53 ?_
 unfold slices_Equal_int at hp
 simp [Try.f53]
 rcases zad hp with ⟨h_1,hp⟩|⟨h_1,hp⟩
 ·try simp at h_1
  cases hp
  simp [Goal,FnEnd,h_1]
 ·try simp at h_1
  try simp [h_1]
  obtain ⟨r_21,h_22,hp⟩:=zaa hp
  obtain ⟨I_4,I_4_⟩:=exV fun (s_2:Int) (σ:St)=>(σ.env 0=uL .shr s1∧σ.env 1=uL .shr s2∧σ.env 12=uI (s1.length:Int)∧σ.env 13=uI s_2)∧σ.mem=mem0
  obtain ⟨X_5,X_5_⟩:=exV fun (r_21:(Unit) ⊕ (Unit)) (out:Out)=>Sum.elim (fun r_21=>∃ σ:St,out=.ret σ∧σ.env 4=uB false∧σ.mem=mem0) (fun r_21=>∃ σ:St,out=.exit 0 σ∧σ.mem=mem0) r_21
  refine loopP ({ hd:=[0,1,12,13],bx:=[],ex:=[],rt:=[4] }) I_4 X_5 h_22 (by exact rfl) ?_ ?_ ?_
  ·rw [I_4_]
   exact ⟨by simp [zae,zab,h_1],by simp [zab,h_1]⟩
  ·intro s_2 σ_6 a_3 hI hp
   rw [I_4_] at hI
   obtain ⟨q_8,q_7⟩:=hI
   try simp [h_1,q_8,q_7]
   rcases zad hp with ⟨h_9,hp⟩|⟨h_9,hp⟩
   ·try simp at h_9
    obtain ⟨e_10,h_11,hp⟩:=zaa hp
    have b_12:=at_lo h_11
    have b_13:=at_hi h_11
    try simp at b_12 b_13
    have c_14:=seg_at' h_11 0 1 (by decide) (ds:=[.sc (.int .i64 e_10)]) rfl
    try simp at c_14
    obtain ⟨e_15,h_16,hp⟩:=zaa hp
    have b_17:=at_lo h_16
    have b_18:=at_hi h_16
    try simp at b_17 b_18
    have c_19:=seg_at' h_16 0 1 (by decide) (ds:=[.sc (.int .i64 e_15)]) rfl
    try simp at c_19
    try simp [h_1,q_8,q_7,h_9,b_12,b_13,c_14,b_17,b_18,c_19]
    rcases zad hp with ⟨h_20,hp⟩|⟨h_20,hp⟩
    ·try simp at h_20
     cases hp
     try simp [h_1,q_8,q_7,h_9,h_20]
     refine goal_outR ?_
     rw [X_5_]
     exact ⟨_,rfl,by simp [zae,zab,h_1,q_8,q_7,h_9,h_20],by simp [zab,h_1,q_8,q_7,h_9,h_20]⟩
    ·try simp at h_20
     cases hp
     try simp [h_1,q_8,q_7,h_9,h_20]
     refine goal_next ?_
     rw [I_4_]
     exact ⟨by simp [zae,zab,h_1,q_8,q_7,h_9,h_20],by simp [zab,h_1,q_8,q_7,h_9,h_20]⟩
   ·try simp at h_9
    cases hp
    try simp [h_1,q_8,q_7,h_9]
    refine goal_outX ?_
    rw [X_5_]
    exact ⟨_,rfl,by simp [zab,h_1,q_8,q_7,h_9]⟩
  ·intro out hX
   rw [X_5_] at hX
   rcases r_21 with r_21 | r_21
   ·simp only [Sum.elim_inl,Sum.elim_inr] at hX hp
    obtain ⟨σ_23,rfl,q_25,q_24⟩:=hX
    cases hp
    simp [Goal,FnEnd,h_1,q_25,q_24]
   ·simp only [Sum.elim_inl,Sum.elim_inr] at hX hp
    obtain ⟨σ_26,rfl,q_27⟩:=hX
    cases hp
    simp [Goal,FnEnd,h_1,q_27]
theorem pc53:PC Try.prog 53 C53:=pc_of (g:=g53) (zah [] rfl trivial) (ent Try.func53) fun x y h=>w53 h

def C55:List AV→Option AV:=specP (X:=TNode × TNode × Unit) fun x=>impl_EqualStructure_1 x.1 x.2.1
def g55:Cfg:={ P:=Try.prog,take:=[],keep:=[],gho:=[],ctx:=[(53,C53)] }
@[simp] theorem g55_s:type_of% (cfg_s (g:=g55) rfl):=cfg_s rfl
theorem w55 {x_ y_} {y} (hp:impl_EqualStructure_1 x_ y_=some y):∃ m,callo g55 0 55 [av .shr x_,av .shr y_] mem0=some (Res.res y,m):=by
 refine st0 [.tmp 4] Try.func55 ?_
 unfold impl_EqualStructure_1 at hp
 obtain ⟨y_1,h_2,hp⟩:=zaa hp
 have c_3:=C53_eq h_2
 simp at c_3
 simp [Try.f55,c_3]
 rcases zad hp with ⟨h_4,hp⟩|⟨h_4,hp⟩
 ·try simp at h_4
  obtain ⟨y_5,h_6,hp⟩:=zaa hp
  have c_7:=C53_eq h_6
  simp at c_7
  try simp [h_4,c_7]
  rcases zad hp with ⟨h_8,hp⟩|⟨h_8,hp⟩
  ·try simp at h_8
   try simp [h_4,h_8]
   rcases zad hp with ⟨h_9,hp⟩|⟨h_9,hp⟩
   ·try simp at h_9
    cases hp
    simp [Goal,FnEnd,h_4,h_8,h_9]
   ·try simp at h_9
    cases hp
    simp [Goal,FnEnd,h_4,h_8,h_9]
  ·try simp at h_8
   cases hp
   simp [Goal,FnEnd,h_4,h_8]
 ·try simp at h_4
  cases hp
  simp [Goal,FnEnd,h_4]
theorem pc55:PC Try.prog 55 C55:=pc_of (g:=g55) (zah _ g55_s.2.1 ⟨pc53,trivial⟩) (ent Try.func55) fun x y h=>w55 h

abbrev G54 (g:Cfg):Prop:=Has Try.prog g 54 Try.f54 [] [(4,{ hd:=[1,2,15,16,17],bx:=[8,9],ex:=[],rt:=[6] })] [] []
theorem wI54 {g:Cfg} (G:G54 g) {d:Nat} {mem:Mem} (hT:Tight d mem)  {s1:(List TNode)} {s2:(List TNode)} {eq:(TNode→TNode→Option (Bool))} {m_0:Md} (hm_0:LentM m_0) {m_1:Md} (hm_1:LentM m_1) {fk_eq:Nat} {caps_eq:List (Key × Nat)} (hl_eq:∀ c∈caps_eq,c.1.1≤d) (hc_eq:Clo g d mem fk_eq caps_eq fun x:TNode × TNode × Unit=>eq x.1 x.2.1) {y} (hp:zag s1 s2 eq=some y):callo g d 54 [av m_0 s1,av m_1 s2,.one (.fn fk_eq caps_eq)] mem=some (Res.res y,mem):=by
 have gP:=G.P;have gt:=G.tk;have gr:=G.ro;have gg:=G.gh
 have k_4:=G.kp (4,{ hd:=[1,2,15,16,17],bx:=[8,9],ex:=[],rt:=[6] }) (by simp)
 have hT2:memKill (fun k=>decide (d < k.1)) mem=mem:=hT
 have hm0:∀ t,mem (d+1,t)=none:=fun t=>hT.none (by simp)
 refine start_in (Try.f54.body.getD .skip) [.tmp 6] G Try.func54 (by kernel_rfl) (by simp [Try.ntmps54]) rfl ?_
 unfold zag at hp
 simp [Try.f54,gP,gt,gr,gg,hm0,hm_0.copy,hm_0.elem,hm_1.copy,hm_1.elem]
 rcases zad hp with ⟨h_1,hp⟩|⟨h_1,hp⟩
 ·try simp at h_1
  cases hp
  simp [Goal,FnEndI,memKill_hi,gP,gt,gr,gg,hm0,hm_0.copy,hm_0.elem,hm_1.copy,hm_1.elem,h_1,hT2]
 ·try simp at h_1
  try simp [gP,gt,gr,gg,hm0,hm_0.copy,hm_0.elem,hm_1.copy,hm_1.elem,h_1]
  obtain ⟨r_28,h_29,hp⟩:=zaa hp
  obtain ⟨I_4,I_4_⟩:=exV fun (s_2:Int) (σ:St)=>(σ.env 1=uL m_1 s2∧σ.env 15=uL m_0 s1∧σ.env 16=uI (s1.length:Int)∧σ.env 17=uI s_2)∧σ.env 2=.one (.fn fk_eq caps_eq)∧Tight (d+1) σ.mem∧Agree d mem σ.mem∧NoBoxD d [] σ.mem
  obtain ⟨X_5,X_5_⟩:=exV fun (r_28:(Unit) ⊕ (Unit)) (out:Out)=>Sum.elim (fun r_28=>∃ σ:St,out=.ret σ∧σ.env 6=uB false∧Tight (d+1) σ.mem∧Agree d mem σ.mem∧NoBoxD d [] σ.mem) (fun r_28=>∃ σ:St,out=.exit 0 σ∧Tight (d+1) σ.mem∧Agree d mem σ.mem∧NoBoxD d [] σ.mem) r_28
  refine loopP ({ hd:=[1,2,15,16,17],bx:=[8,9],ex:=[],rt:=[6] }) I_4 X_5 h_29 (by exact k_4) ?_ ?_ ?_
  ·rw [I_4_]
   exact ⟨by simp [zae,zab,gP,gt,gr,gg,hm0,hm_0.copy,hm_0.elem,hm_1.copy,hm_1.elem,h_1],by simp [zae,gP,gt,gr,gg,hm0,hm_0.copy,hm_0.elem,hm_1.copy,hm_1.elem,h_1] <;> first | (intro x x1 x2 hx;have h0:=hl_eq _ hx;simp at h0;omega) | (intro x hx;have h0:=hl_eq _ hx;simp at h0;omega),(by repeat (first | exact tight_mem0 _ | exact hT.up | exact hT | refine Tight.restrict ?_ | refine Tight.upd ?_ (by simp) (by simp) | refine Tight.killB ?_ | refine tight_frz ?_)),(by repeat (first | exact fun k hk=>rfl | refine Agree.restrict hT ?_ | refine Agree.upd ?_ (by simp))),NoBoxD.restrict (by intro k hd hk hb;simp at hk hb;simp [hk,hb,gP,gt,gr,gg,hm0,hm_0.copy,hm_0.elem,hm_1.copy,hm_1.elem,h_1,hT.none hd])⟩
  ·intro s_2 σ_6 a_3 hI hp
   rw [I_4_] at hI
   obtain ⟨q_11,q_7,ht_8,ha_9,hn_10⟩:=hI
   try simp [gP,gt,gr,gg,hm0,hm_0.copy,hm_0.elem,hm_1.copy,hm_1.elem,h_1,q_11,q_7]
   rcases zad hp with ⟨h_12,hp⟩|⟨h_12,hp⟩
   ·try simp at h_12
    obtain ⟨e_13,h_14,hp⟩:=zaa hp
    have b_15:=at_lo h_14
    have b_16:=at_hi h_14
    try simp at b_15 b_16
    have c_17:=seg_at' h_14 0 4 (by decide) (ds:=[.sl e_13.vars.length (encL e_13.vars),.sl e_13.reach.length (encL e_13.reach),.sc (.int .i64 e_13.shared),.sc (.int .i64 e_13.many)]) rfl
    try simp at c_17
    have n_18:=hn_10 (d+1,8) (by simp) (by simp)
    obtain ⟨e_19,h_20,hp⟩:=zaa hp
    have b_21:=at_lo h_20
    have b_22:=at_hi h_20
    try simp at b_21 b_22
    have c_23:=seg_at' h_20 0 4 (by decide) (ds:=[.sl e_19.vars.length (encL e_19.vars),.sl e_19.reach.length (encL e_19.reach),.sc (.int .i64 e_19.shared),.sc (.int .i64 e_19.many)]) rfl
    try simp at c_23
    have n_24:=hn_10 (d+1,9) (by simp) (by simp)
    obtain ⟨y_25,h_26,hp⟩:=zaa hp
    try simp [gP,gt,gr,gg,hm0,hm_0.copy,hm_0.elem,hm_1.copy,hm_1.elem,h_1,q_11,q_7,h_12,b_15,b_16,c_17,n_18,b_21,b_22,c_23,n_24]
    refine goal_call ([av m_0 e_13,av m_1 e_19] ++ capsAV caps_eq) (Res.res y_25) (by simp [capsAV,gP,gt,gr,gg,hm0,hm_0.copy,hm_0.elem,hm_1.copy,hm_1.elem,h_1,q_11,q_7,h_12]) (hc_eq _ _ _ (e_13,e_19,()) _ (Nat.le_succ d) (by repeat (first | exact ha_9 | exact fun k hk=>rfl | refine Agree.upd ?_ (by simp))) (by repeat (first | exact ht_8 | exact tight_mem0 _ | exact hT.up | exact hT | (simp only [q_11,q_7];done) | refine Tight.upd ?_ (by simp) (by simp) | refine Tight.killB ?_ | refine tight_frz ?_)) ⟨_,_,hm_0,rfl,⟨_,_,hm_1,rfl,rfl⟩⟩ h_26) ?_
    try simp [gP,gt,gr,gg,hm0,hm_0.copy,hm_0.elem,hm_1.copy,hm_1.elem,h_1,q_11,q_7,h_12]
    rcases zad hp with ⟨h_27,hp⟩|⟨h_27,hp⟩
    ·try simp at h_27
     cases hp
     try simp [gP,gt,gr,gg,hm0,hm_0.copy,hm_0.elem,hm_1.copy,hm_1.elem,h_1,q_11,q_7,h_12,h_27]
     refine goal_next ?_
     rw [I_4_]
     exact ⟨by simp [zae,zab,gP,gt,gr,gg,hm0,hm_0.copy,hm_0.elem,hm_1.copy,hm_1.elem,h_1,q_11,q_7,h_12,h_27],by simp [zae,gP,gt,gr,gg,hm0,hm_0.copy,hm_0.elem,hm_1.copy,hm_1.elem,h_1,q_11,q_7,h_12,h_27] <;> first | (intro x x1 x2 hx;have h0:=hl_eq _ hx;simp at h0;omega) | (intro x hx;have h0:=hl_eq _ hx;simp at h0;omega),(by repeat (first | exact ht_8 | exact tight_mem0 _ | exact hT.up | exact hT | refine Tight.restrict ?_ | refine Tight.upd ?_ (by simp) (by simp) | refine Tight.killB ?_ | refine tight_frz ?_)),(by repeat (first | exact ha_9 | exact fun k hk=>rfl | refine Agree.restrict hT ?_ | refine Agree.upd ?_ (by simp))),NoBoxD.restrict (by intro k hd hk hb;simp at hk hb;simp [hk,hb,gP,gt,gr,gg,hm0,hm_0.copy,hm_0.elem,hm_1.copy,hm_1.elem,h_1,q_11,q_7,h_12,h_27,hn_10 k hd (by simp [hk,hb])])⟩
    ·try simp at h_27
     cases hp
     try simp [gP,gt,gr,gg,hm0,hm_0.copy,hm_0.elem,hm_1.copy,hm_1.elem,h_1,q_11,q_7,h_12,h_27]
     refine goal_outR ?_
     rw [X_5_]
     exact ⟨_,rfl,by simp [zae,zab,gP,gt,gr,gg,hm0,hm_0.copy,hm_0.elem,hm_1.copy,hm_1.elem,h_1,q_11,q_7,h_12,h_27],(by repeat (first | exact ht_8 | exact tight_mem0 _ | exact hT.up | exact hT | refine Tight.restrict ?_ | refine Tight.upd ?_ (by simp) (by simp) | refine Tight.killB ?_ | refine tight_frz ?_)),(by repeat (first | exact ha_9 | exact fun k hk=>rfl | refine Agree.restrict hT ?_ | refine Agree.upd ?_ (by simp))),NoBoxD.restrict (by intro k hd hk hb;simp at hk hb;simp [hk,hb,gP,gt,gr,gg,hm0,hm_0.copy,hm_0.elem,hm_1.copy,hm_1.elem,h_1,q_11,q_7,h_12,h_27,hn_10 k hd (by simp [hk,hb])])⟩
   ·try simp at h_12
    cases hp
    try simp [gP,gt,gr,gg,hm0,hm_0.copy,hm_0.elem,hm_1.copy,hm_1.elem,h_1,q_11,q_7,h_12]
    refine goal_outX ?_
    rw [X_5_]
    exact ⟨_,rfl,(by repeat (first | exact ht_8 | exact tight_mem0 _ | exact hT.up | exact hT | refine Tight.restrict ?_ | refine Tight.upd ?_ (by simp) (by simp) | refine Tight.killB ?_ | refine tight_frz ?_)),(by repeat (first | exact ha_9 | exact fun k hk=>rfl | refine Agree.restrict hT ?_ | refine Agree.upd ?_ (by simp))),NoBoxD.restrict (by intro k hd hk hb;simp at hk hb;simp [hk,hb,gP,gt,gr,gg,hm0,hm_0.copy,hm_0.elem,hm_1.copy,hm_1.elem,h_1,q_11,q_7,h_12,hn_10 k hd (by simp [hk,hb])])⟩
  ·intro out hX
   rw [X_5_] at hX
   rcases r_28 with r_28 | r_28
   ·simp only [Sum.elim_inl,Sum.elim_inr] at hX hp
    obtain ⟨σ_30,rfl,q_34,ht_31,ha_32,hn_33⟩:=hX
    cases hp
    simp [Goal,FnEndI,memKill_hi,gP,gt,gr,gg,hm0,hm_0.copy,hm_0.elem,hm_1.copy,hm_1.elem,h_1,q_34,kill_back ha_32 hT]
   ·simp only [Sum.elim_inl,Sum.elim_inr] at hX hp
    obtain ⟨σ_35,rfl,ht_36,ha_37,hn_38⟩:=hX
    cases hp
    simp [Goal,FnEndI,memKill_hi,gP,gt,gr,gg,hm0,hm_0.copy,hm_0.elem,hm_1.copy,hm_1.elem,h_1,kill_back ha_37 hT]

def C26:List AV→Option AV:=specP (X:=TStructure × TStructure × Unit) fun x=>impl_EqualStructure x.1 x.2.1
theorem C26_eq {a_ b_} {y} (h:impl_EqualStructure a_ b_=some y):C26 [av .shr a_,av .shr b_]=some (Res.res y):=zaf (x:=(a_,b_,())) h
def g26:Cfg:={ P:=Try.prog,take:=[],keep:=[((54,4),{ hd:=[1,2,15,16,17],bx:=[8,9],ex:=[],rt:=[6] })],gho:=[],ctx:=[(53,C53),(55,C55)] }
@[simp] theorem g26_s:type_of% (cfg_s (g:=g26) rfl):=cfg_s rfl
theorem w26 {a_ b_} {y} (hp:impl_EqualStructure a_ b_=some y):∃ m,callo g26 0 26 [av .shr a_,av .shr b_] mem0=some (Res.res y,m):=by
 have G_54:G54 g26:=⟨rfl,by kernel_rfl,rfl,fun t=>by simp,noAway (fun t=>by simp) (by simp) (fun t=>by simp),by simp [lookN],fun i=>by simp [lookK],by simp [g26,lookK],by simp⟩
 refine st0 [.tmp 4] Try.func26 ?_
 unfold impl_EqualStructure at hp
 obtain ⟨y_1,h_2,hp⟩:=zaa hp
 have c_3:=C53_eq h_2
 simp at c_3
 simp [Try.f26,c_3]
 rcases zad hp with ⟨h_4,hp⟩|⟨h_4,hp⟩
 ·try simp at h_4
  obtain ⟨y_5,h_6,hp⟩:=zaa hp
  try simp [h_4]
  refine goal_call [av .shr a_.nodes,av .shr b_.nodes,.one (.fn 55 [])] (Res.res y_5) (by simp [h_4]) (wI54 G_54 (by repeat (first | exact tight_mem0 _ | exact hT.up | exact hT | (simp only [true_and];done) | refine Tight.upd ?_ (by simp) (by simp) | refine Tight.killB ?_ | refine tight_frz ?_)) (.inl rfl) (.inl rfl) (by simp) (clo_ctx (by rfl)) h_6) ?_
  cases hp
  simp [Goal,FnEnd,h_4]
 ·try simp at h_4
  cases hp
  simp [Goal,FnEnd,h_4]
theorem pc26:PC Try.prog 26 C26:=pc_of (g:=g26) (zah _ g26_s.2.1 ⟨pc53,pc55,trivial⟩) (ent Try.func26) fun x y h=>w26 h

def C9:List AV→Option AV:=specP (X:=TStructure × Unit) fun x=>impl_IsBlurred x.1
theorem C9_eq {s} {y} (h:impl_IsBlurred s=some y):C9 [av .shr s]=some (Res.res y):=zaf (x:=(s,())) h
def g9:Cfg:={ P:=Try.prog,take:=[],keep:=[],gho:=[],ctx:=[(12,C12),(26,C26)] }
@[simp] theorem g9_s:type_of% (cfg_s (g:=g9) rfl):=cfg_s rfl
theorem w9 {s} {y} (hp:impl_IsBlurred s=some y):∃ m,callo g9 0 9 [av .shr s] mem0=some (Res.res y,m):=by
 refine st0 [.tmp 2] Try.func9 ?_
 unfold impl_IsBlurred at hp
 obtain ⟨y_1,h_2,hp⟩:=zaa hp
 have c_3:=C12_eq h_2
 simp at c_3
 obtain ⟨y_4,h_5,hp⟩:=zaa hp
 have c_6:=C26_eq h_5
 simp at c_6
 cases hp
 simp [Try.f9,Goal,FnEnd,c_3,c_6]
theorem pc9:PC Try.prog 9 C9:=pc_of (g:=g9) (zah _ g9_s.2.1 ⟨pc12,pc26,trivial⟩) (ent Try.func9) fun x y h=>w9 h

def C3:List AV→Option AV:=specP (X:=TStructure × Unit) fun x=>laws_FnExactIsBlurred x.1
theorem C3_eq {aS} {y} (h:laws_FnExactIsBlurred aS=some y):C3 [av .shr aS]=some (Res.res y):=zaf (x:=(aS,())) h
def g3:Cfg:={ P:=Try.prog,take:=[],keep:=[],gho:=[],ctx:=[(6,C6),(7,C7),(8,C8),(9,C9),(10,C10)] }
@[simp] theorem g3_s:type_of% (cfg_s (g:=g3) rfl):=cfg_s rfl
theorem w3 {aS} {y} (hp:laws_FnExactIsBlurred aS=some y):∃ m,callo g3 0 3 [av .shr aS] mem0=some (Res.res y,m):=by
 refine st0 [.tmp 2] Try.func3 ?_
 unfold laws_FnExactIsBlurred at hp
 obtain ⟨y_1,h_2,hp⟩:=zaa hp
 have c_3:=C6_eq h_2
 simp at c_3
 simp [Try.f3,c_3]
 rcases zad hp with ⟨h_4,hp⟩|⟨h_4,hp⟩
 ·try simp at h_4
  cases hp
  simp [Goal,FnEnd,h_4]
 ·try simp at h_4
  obtain ⟨y_5,h_6,hp⟩:=zaa hp
  have c_7:=C8_eq h_6
  simp at c_7
  obtain ⟨y_8,h_9,hp⟩:=zaa hp
  have c_10:=C7_eq h_9
  simp at c_10
  obtain ⟨y_11,h_12,hp⟩:=zaa hp
  cases Option.some.inj (h_6.symm.trans h_12)
  obtain ⟨y_13,h_14,hp⟩:=zaa hp
  have c_15:=C9_eq h_14
  simp at c_15
  try simp [h_4,c_7,c_10,c_7,c_15]
  rcases zad hp with ⟨h_16,hp⟩|⟨h_16,hp⟩
  ·try simp at h_16
   cases hp
   simp [Goal,FnEnd,h_4,h_16]
  ·try simp at h_16
   obtain ⟨y_17,h_18,hp⟩:=zaa hp
   cases Option.some.inj (h_6.symm.trans h_18)
   obtain ⟨y_19,h_20,hp⟩:=zaa hp
   have c_21:=C10_eq h_20
   simp at c_21
   try simp [h_4,h_16,c_7,c_21]
   rcases zad hp with ⟨h_22,hp⟩|⟨h_22,hp⟩
   ·try simp at h_22
    cases hp
    simp [Goal,FnEnd,h_4,h_16,h_22]
   ·try simp at h_22
    cases hp
    simp [Goal,FnEnd,h_4,h_16,h_22]
theorem pc3:PC Try.prog 3 C3:=pc_of (g:=g3) (zah _ g3_s.2.1 ⟨pc6,pc7,pc8,pc9,pc10,trivial⟩) (ent Try.func3) fun x y h=>w3 h

def C15:List AV→Option AV:=specP (X:=THeap × Int × Unit) fun x=>laws_szHeap x.1 x.2.1
theorem C15_eq {a_ left} {y} (h:laws_szHeap a_ left=some y):C15 [av .shr a_,av .shr left]=some (Res.res y):=zaf (x:=(a_,left,())) h
def g15:Cfg:={ P:=Try.prog,take:=[],keep:=[],gho:=[],ctx:=[(22,C22)] }
@[simp] theorem g15_s:type_of% (cfg_s (g:=g15) rfl):=cfg_s rfl
def C17:List AV→Option AV:=specP (X:=THeap × Unit) fun x=>laws_toHeap x.1
theorem C17_eq {a_} {y} (h:laws_toHeap a_=some y):C17 [av .shr a_]=some (Res.res y):=zaf (x:=(a_,())) h
def g17:Cfg:={ P:=Try.prog,take:=[(17,12)],keep:=[],gho:=[],ctx:=[(25,C25)] }
@[simp] theorem g17_s:type_of% (cfg_s (g:=g17) rfl):=cfg_s rfl
end Go.Proofs


set_option maxHeartbeats 4000000
set_option maxRecDepth 100000
namespace Go.Proofs
open Go.Ev
def C79:List AV→Option AV:=specP (X:=THeap × Unit) fun x=>spec_l7Cells x.1
def g79:Cfg:={ P:=Try.prog,take:=[],keep:=[((79,2),{ hd:=[1,3],bx:=[],ex:=[1],rt:=[2] }),((79,7),{ hd:=[1,4],bx:=[],ex:=[],rt:=[2] })],gho:=[],ctx:=[(59,C59)] }
@[simp] theorem g79_s:type_of% (cfg_s (g:=g79) rfl):=cfg_s rfl
def C81:List AV→Option AV:=specP (X:=(List Int) × Int × Unit) fun x=>spec_Positions x.1 x.2.1
def g81:Cfg:={ P:=Try.prog,take:=[(81,20),(81,24)],keep:=[((81,3),{ hd:=[0,1,5,6],bx:=[],ex:=[5],rt:=[4] })],gho:=[],ctx:=[] }
@[simp] theorem g81_s:type_of% (cfg_s (g:=g81) rfl):=cfg_s rfl
def C80:List AV→Option AV:=specP (X:=Bool × Unit) fun x=>spec_l3Of x.1
def g80:Cfg:={ P:=Try.prog,take:=[],keep:=[],gho:=[],ctx:=[] }
@[simp] theorem g80_s:type_of% (cfg_s (g:=g80) rfl):=cfg_s rfl
def C82:List AV→Option AV:=specP (X:=(List Int) × Int × Unit) fun x=>spec_l7Has x.1 x.2.1
def g82:Cfg:={ P:=Try.prog,take:=[],keep:=[],gho:=[],ctx:=[(81,C81)] }
@[simp] theorem g82_s:type_of% (cfg_s (g:=g82) rfl):=cfg_s rfl
def C83:List AV→Option AV:=specP (X:=THeap × Int × Unit) fun x=>spec_Followed x.1 x.2.1
def g83:Cfg:={ P:=Try.prog,take:=[(83,23),(83,32)],keep:=[((83,2),{ hd:=[1,2,5],bx:=[],ex:=[5],rt:=[4] })],gho:=[],ctx:=[(59,C59),(82,C82)] }
@[simp] theorem g83_s:type_of% (cfg_s (g:=g83) rfl):=cfg_s rfl
def C47:List AV→Option AV:=specP (X:=THeap × Unit) fun x=>spec_StructureOf x.1
def g47:Cfg:={ P:=Try.prog,take:=[(47,49),(47,62),(47,77),(47,78),(47,88),(47,100)],keep:=[((47,6),{ hd:=[1,2,3,4,5],bx:=[6],ex:=[2,4],rt:=[2] }),((47,10),{ hd:=[1,2,3,4,5,6,7],bx:=[],ex:=[1,2,3,4,5,6],rt:=[2] }),((47,16),{ hd:=[1,2,3,4,5,8],bx:=[],ex:=[1,2,3,4,5],rt:=[2] })],gho:=[],ctx:=[(59,C59),(79,C79),(80,C80),(81,C81),(82,C82),(83,C83)] }
@[simp] theorem g47_s:type_of% (cfg_s (g:=g47) rfl):=cfg_s rfl
def C16:List AV→Option AV:=specP (X:=THeap × Unit) fun x=>spec_AbstractionOf x.1
theorem C16_eq {h_} {y} (h:spec_AbstractionOf h_=some y):C16 [av .shr h_]=some (Res.res y):=zaf (x:=(h_,())) h
def g16:Cfg:={ P:=Try.prog,take:=[],keep:=[],gho:=[],ctx:=[(11,C11),(47,C47)] }
@[simp] theorem g16_s:type_of% (cfg_s (g:=g16) rfl):=cfg_s rfl
def C108:List AV→Option AV:=specP (X:=THeap × Int × Unit) fun x=>impl_Heap_isCell x.1 x.2.1
def g108:Cfg:={ P:=Try.prog,take:=[],keep:=[],gho:=[],ctx:=[(64,C64)] }
@[simp] theorem g108_s:type_of% (cfg_s (g:=g108) rfl):=cfg_s rfl
def C84:List AV→Option AV:=specP (X:=THeap × Unit) fun x=>impl_Heap_areCells x.1
def g84:Cfg:={ P:=Try.prog,take:=[],keep:=[((111,2),{ hd:=[0,1,7,8],bx:=[],ex:=[],rt:=[4] })],gho:=[],ctx:=[(106,C106),(108,C108)] }
@[simp] theorem g84_s:type_of% (cfg_s (g:=g84) rfl):=cfg_s rfl
def C86:List AV→Option AV:=specP (X:=(List Int) × Int × Unit) fun x=>impl_Positions x.1 x.2.1
def g86:Cfg:={ P:=Try.prog,take:=[(86,19),(86,24)],keep:=[((86,3),{ hd:=[1,5,9,10,11],bx:=[],ex:=[5],rt:=[4] })],gho:=[],ctx:=[] }
@[simp] theorem g86_s:type_of% (cfg_s (g:=g86) rfl):=cfg_s rfl
def C85:List AV→Option AV:=specP (X:=Bool × Unit) fun x=>impl_truthOf x.1
def g85:Cfg:={ P:=Try.prog,take:=[],keep:=[],gho:=[],ctx:=[] }
@[simp] theorem g85_s:type_of% (cfg_s (g:=g85) rfl):=cfg_s rfl
def C109:List AV→Option AV:=specP (X:=(List Int) × Int × Unit) fun x=>slices_Index_int x.1 x.2.1
def g109:Cfg:={ P:=Try.prog,take:=[],keep:=[((109,2),{ hd:=[0,1,7,8],bx:=[],ex:=[],rt:=[4] })],gho:=[],ctx:=[] }
@[simp] theorem g109_s:type_of% (cfg_s (g:=g109) rfl):=cfg_s rfl
def C87:List AV→Option AV:=specP (X:=(List Int) × Int × Unit) fun x=>slices_Contains_int x.1 x.2.1
def g87:Cfg:={ P:=Try.prog,take:=[],keep:=[],gho:=[],ctx:=[(109,C109)] }
@[simp] theorem g87_s:type_of% (cfg_s (g:=g87) rfl):=cfg_s rfl
def C88:List AV→Option AV:=specP (X:=THeap × Int × Unit) fun x=>impl_Followed x.1 x.2.1
def g88:Cfg:={ P:=Try.prog,take:=[(88,27),(88,31)],keep:=[((88,3),{ hd:=[1,2,5,6],bx:=[],ex:=[5],rt:=[4] })],gho:=[],ctx:=[(87,C87),(108,C108)] }
@[simp] theorem g88_s:type_of% (cfg_s (g:=g88) rfl):=cfg_s rfl
def C48:List AV→Option AV:=specP (X:=THeap × Unit) fun x=>impl_StructureOf x.1
def g48:Cfg:={ P:=Try.prog,take:=[(48,49),(48,58),(48,70),(48,71),(48,82),(48,96)],keep:=[((48,5),{ hd:=[1,2,3,29,30],bx:=[5],ex:=[2,3],rt:=[2] }),((48,9),{ hd:=[1,2,3,4,5,29,30,42,43,44],bx:=[],ex:=[1,2,3,4,5,29,30],rt:=[2] }),((48,16),{ hd:=[1,2,3,4,29,30,77,78],bx:=[],ex:=[1,2,3,29,30],rt:=[2] })],gho:=[],ctx:=[(64,C64),(84,C84),(85,C85),(86,C86),(87,C87),(88,C88)] }
@[simp] theorem g48_s:type_of% (cfg_s (g:=g48) rfl):=cfg_s rfl
def C18:List AV→Option AV:=specP (X:=THeap × Unit) fun x=>impl_AbstractionOf x.1
theorem C18_eq {h_} {y} (h:impl_AbstractionOf h_=some y):C18 [av .shr h_]=some (Res.res y):=zaf (x:=(h_,())) h
def g18:Cfg:={ P:=Try.prog,take:=[],keep:=[],gho:=[],ctx:=[(12,C12),(48,C48)] }
@[simp] theorem g18_s:type_of% (cfg_s (g:=g18) rfl):=cfg_s rfl
def C19:List AV→Option AV:=specP (X:=THeap × THeap × Unit) fun x=>laws_eqHeap x.1 x.2.1
theorem C19_eq {a_ b_} {y} (h:laws_eqHeap a_ b_=some y):C19 [av .shr a_,av .shr b_]=some (Res.res y):=zaf (x:=(a_,b_,())) h
def g19:Cfg:={ P:=Try.prog,take:=[],keep:=[],gho:=[],ctx:=[(28,C28)] }
@[simp] theorem g19_s:type_of% (cfg_s (g:=g19) rfl):=cfg_s rfl
def g5:Cfg:={ P:=Try.prog,take:=[],keep:=[((44,2),rowKp),((43,2),rowKp)],gho:=[((5,13),[.many (thawBox 1 5)]),((5,2000013),[.many (frzBox 1 5)]),((5,17),[.many (thawBox 1 6)]),((5,2000017),[.many (frzBox 1 6)])],ctx:=[(10,C10),(14,C14),(15,C15),(16,C16),(17,C17),(18,C18),(19,C19)] }
@[simp] theorem g5_s:type_of% (cfg_s (g:=g5) rfl):=cfg_s rfl
theorem w5 {aH} {y} (hp:laws_FnExactAbstractionOf aH=some y):∃ m,callo g5 0 5 [av .shr aH] mem0=some (Res.res y,m):=by
 have G_20:G20 g5:=⟨rfl,by kernel_rfl,rfl,fun t=>by simp,noAway (fun t=>by simp) (by simp) (fun t=>by simp),by simp [lookN],fun i=>by simp [lookK],by simp [g5,lookK],by simp⟩
 have G_44:G44 g5:=⟨rfl,by kernel_rfl,rfl,fun t=>by simp,noAway (fun t=>by simp) (by simp) (fun t=>by simp),by simp [lookN],fun i=>by simp [lookK],by simp [g5,lookK],by simp⟩
 have G_13:G13 g5:=⟨rfl,by kernel_rfl,rfl,fun t=>by simp,noAway (fun t=>by simp) (by simp) (fun t=>by simp),by simp [lookN],fun i=>by simp [lookK],by simp [g5,lookK],by simp⟩
 have G_43:G43 g5:=⟨rfl,by kernel_rfl,rfl,fun t=>by simp,noAway (fun t=>by simp) (by simp) (fun t=>by simp),by simp [lookN],fun i=>by simp [lookK],by simp [g5,lookK],by simp⟩
 refine st0 [.tmp 2] Try.func5 ?_
 unfold laws_FnExactAbstractionOf at hp
 obtain ⟨y_1,h_2,hp⟩:=zaa hp
 have c_3:=C15_eq h_2
 simp at c_3
 simp [Try.f5,c_3]
 rcases zad hp with ⟨h_4,hp⟩|⟨h_4,hp⟩
 ·try simp at h_4
  cases hp
  simp [Goal,FnEnd,h_4]
 ·try simp at h_4
  obtain ⟨y_5,h_6,hp⟩:=zaa hp
  have c_7:=C17_eq h_6
  simp at c_7
  obtain ⟨y_8,h_9,hp⟩:=zaa hp
  have c_10:=C16_eq h_9
  simp at c_10
  obtain ⟨y_11,h_12,hp⟩:=zaa hp
  cases Option.some.inj (h_6.symm.trans h_12)
  obtain ⟨y_13,h_14,hp⟩:=zaa hp
  have c_15:=C18_eq h_14
  simp at c_15
  obtain ⟨y_16,h_17,hp⟩:=zaa hp
  have c_18:=C10_eq h_17
  simp at c_18
  try simp [h_4,c_7,c_10,c_7,c_15,c_18]
  rcases zad hp with ⟨h_19,hp⟩|⟨h_19,hp⟩
  ·try simp at h_19
   obtain ⟨y_20,h_21,hp⟩:=zaa hp
   cases Option.some.inj (h_6.symm.trans h_21)
   obtain ⟨y_22,h_23,hp⟩:=zaa hp
   have c_24:=C19_eq h_23
   simp at c_24
   try simp [h_4,h_19,c_7,c_24]
   rcases zad hp with ⟨h_25,hp⟩|⟨h_25,hp⟩
   ·try simp at h_25
    obtain ⟨r_26,h_27,hp⟩:=zaa hp
    obtain ⟨lg_28,e_29⟩:=markO_eq h_27
    have mk_30:=mk20 G_20 G_44 y_5 1 lg_28
    rw [e_29] at mk_30
    try simp [h_4,h_19,h_25]
    refine goal_markB 5 5 7 32 33 34 20 mk_30 (show ti g5.P 40=some _ from ti_40) rfl rfl (by decide) (by simp [h_4,h_19,h_25]) (by simp [h_4,h_19,h_25]) (by simp [h_4,h_19,h_25]) (WfE.wfE _) (WfE.wfE _) (fun key hkey=>by simp [mem0,key_low hkey 1 1 (by decide),key_low hkey 1 4 (by decide),key_low hkey 1 5 (by decide),key_low hkey 1 6 (by decide),h_4,h_19,h_25]) (by simp) (by simp) (by simp) rfl (by decide) fun σ_31 qq_32 hq_33 hx_34 hk_35 he_36 hd_37 hm_38=>?_
    obtain ⟨q_39,q_40,q_41,q_42,q_43,q_44,q_45,q_46⟩:σ_31.env 1=uP (1,1)∧σ_31.env 4=uP (1,4)∧σ_31.env 6=uP (1,6)∧σ_31.env 7=uI r_26.2∧σ_31.mem (1,1)=some [cL .shr aH.vars,cL .shr aH.next]∧σ_31.mem (1,4)=some [cL .own y_8.nodes,cL .own y_8.next]∧σ_31.mem (1,5)=some [cL .own r_26.1.vars,cL .own r_26.1.next]∧σ_31.mem (1,6)=some [cL .own y_13.nodes,cL .own y_13.next]:=by refine ⟨(he_36 1 (by decide) (by decide) (by decide) (by decide)).trans ?_,(he_36 4 (by decide) (by decide) (by decide) (by decide)).trans ?_,(he_36 6 (by decide) (by decide) (by decide) (by decide)).trans ?_,hk_35,(hm_38 (1,1) (by decide) (by decide) (by decide)).trans ?_,(hm_38 (1,4) (by decide) (by decide) (by decide)).trans ?_,hx_34.trans (by simp),(hm_38 (1,6) (by decide) (by decide) (by decide)).trans ?_⟩ <;> simp [h_4,h_19,h_25,hq_33 (1,1) (by decide) (by decide),hq_33 (1,4) (by decide) (by decide),hq_33 (1,5) (by decide) (by decide),hq_33 (1,6) (by decide) (by decide)]
    have hn_47:NoBox [(1,1),(1,4),(1,5),(1,6)] σ_31.mem:=by
     intro key hk
     by_cases hl:1 < key.1∨bigK≤key.2
     ·exact hd_37 key hl
     ·rw [hm_38 key (by rintro rfl;simp at hk) (by omega) (by omega)]
      simp at hk
      simp [mem0,hk,h_4,h_19,h_25]
    try simp [h_4,h_19,h_25,q_39,q_40,q_41,q_42,q_43,q_44,q_45,q_46]
    rcases zad hp with ⟨h_48,hp⟩|⟨h_48,hp⟩
    ·try simp at h_48
     cases hp
     simp [Goal,FnEnd,h_4,h_19,h_25,q_39,q_40,q_41,q_42,q_43,q_44,q_45,q_46,h_48]
    ·try simp at h_48
     obtain ⟨y_49,h_50,hp⟩:=zaa hp
     have c_51:=C10_eq h_50
     simp at c_51
     try simp [h_4,h_19,h_25,q_39,q_40,q_41,q_42,q_43,q_44,q_45,q_46,h_48,c_51]
     rcases zad hp with ⟨h_52,hp⟩|⟨h_52,hp⟩
     ·try simp at h_52
      obtain ⟨r_53,h_54,hp⟩:=zaa hp
      obtain ⟨lg_55,e_56⟩:=markO_eq h_54
      have mk_57:=mk13 G_13 G_43 G_44 y_13 1 lg_55
      rw [e_56] at mk_57
      try simp [h_4,h_19,h_25,q_39,q_40,q_41,q_42,q_43,q_44,q_45,q_46,h_48,h_52]
      refine goal_markB 6 6 8 43 44 45 13 mk_57 (show ti g5.P 30=some _ from ti_30) rfl rfl (by decide) (by simp [h_4,h_19,h_25,q_39,q_40,q_41,q_42,q_43,q_44,q_45,q_46,h_48,h_52]) (by simp [h_4,h_19,h_25,q_39,q_40,q_41,q_42,q_43,q_44,q_45,q_46,h_48,h_52]) (by simp [h_4,h_19,h_25,q_39,q_40,q_41,q_42,q_43,q_44,q_45,q_46,h_48,h_52]) (WfE.wfE _) (WfE.wfE _) (fun key hkey=>by simp [mem0,key_low hkey 1 1 (by decide),key_low hkey 1 4 (by decide),key_low hkey 1 5 (by decide),key_low hkey 1 6 (by decide),h_4,h_19,h_25,q_39,q_40,q_41,q_42,q_43,q_44,q_45,q_46,h_48,h_52,hn_47 key (by simp [key_low hkey 1 1 (by decide),key_low hkey 1 4 (by decide),key_low hkey 1 5 (by decide),key_low hkey 1 6 (by decide)])]) (by simp) (by simp) (by simp) rfl (by decide) fun σ_58 qq_59 hq_60 hx_61 hk_62 he_63 hd_64 hm_65=>?_
      obtain ⟨q_66,q_67,q_68,q_69,q_70,q_71,q_72,q_73⟩:σ_58.env 1=uP (1,1)∧σ_58.env 4=uP (1,4)∧σ_58.env 6=uP (1,6)∧σ_58.env 8=uI r_53.2∧σ_58.mem (1,1)=some [cL .shr aH.vars,cL .shr aH.next]∧σ_58.mem (1,4)=some [cL .own y_8.nodes,cL .own y_8.next]∧σ_58.mem (1,5)=some [cL .own r_26.1.vars,cL .own r_26.1.next]∧σ_58.mem (1,6)=some [cL .own r_53.1.nodes,cL .own r_53.1.next]:=by refine ⟨(he_63 1 (by decide) (by decide) (by decide) (by decide)).trans ?_,(he_63 4 (by decide) (by decide) (by decide) (by decide)).trans ?_,(he_63 6 (by decide) (by decide) (by decide) (by decide)).trans ?_,hk_62,(hm_65 (1,1) (by decide) (by decide) (by decide)).trans ?_,(hm_65 (1,4) (by decide) (by decide) (by decide)).trans ?_,(hm_65 (1,5) (by decide) (by decide) (by decide)).trans ?_,hx_61.trans (by simp)⟩ <;> simp [h_4,h_19,h_25,q_39,q_40,q_41,q_42,q_43,q_44,q_45,q_46,h_48,h_52,hq_60 (1,1) (by decide) (by decide),hq_60 (1,4) (by decide) (by decide),hq_60 (1,5) (by decide) (by decide),hq_60 (1,6) (by decide) (by decide)]
      have hn_74:NoBox [(1,1),(1,4),(1,5),(1,6)] σ_58.mem:=by
       intro key hk
       by_cases hl:1 < key.1∨bigK≤key.2
       ·exact hd_64 key hl
       ·rw [hm_65 key (by rintro rfl;simp at hk) (by omega) (by omega)]
        simp at hk
        simp [mem0,hk,h_4,h_19,h_25,q_39,q_40,q_41,q_42,q_43,q_44,q_45,q_46,h_48,h_52,hn_47 key (by simp [hk])]
      obtain ⟨y_75,h_76,hp⟩:=zaa hp
      have c_77:=C14_eq h_76
      simp at c_77
      try simp [h_4,h_19,h_25,h_48,h_52,q_66,q_67,q_68,q_69,q_70,q_71,q_72,q_73,c_77]
      rcases zad hp with ⟨h_78,hp⟩|⟨h_78,hp⟩
      ·try simp at h_78
       cases hp
       simp [Goal,FnEnd,h_4,h_19,h_25,h_48,h_52,q_66,q_67,q_68,q_69,q_70,q_71,q_72,q_73,h_78]
      ·try simp at h_78
       try simp [h_4,h_19,h_25,h_48,h_52,q_66,q_67,q_68,q_69,q_70,q_71,q_72,q_73,h_78]
       rcases zad hp with ⟨h_79,hp⟩|⟨h_79,hp⟩
       ·try simp at h_79
        cases hp
        simp [Goal,FnEnd,h_4,h_19,h_25,h_48,h_52,q_66,q_67,q_68,q_69,q_70,q_71,q_72,q_73,h_78,h_79]
       ·try simp at h_79
        obtain ⟨y_80,h_81,hp⟩:=zaa hp
        have c_82:=C17_eq h_81
        simp at c_82
        obtain ⟨y_83,h_84,hp⟩:=zaa hp
        have c_85:=C18_eq h_84
        simp at c_85
        have n_86:=hn_74 (1,10) (by simp)
        obtain ⟨y_87,h_88,hp⟩:=zaa hp
        have c_89:=C10_eq h_88
        simp at c_89
        try simp [h_4,h_19,h_25,h_48,h_52,q_66,q_67,q_68,q_69,q_70,q_71,q_72,q_73,h_78,h_79,c_82,c_85,n_86,c_89]
        rcases zad hp with ⟨h_90,hp⟩|⟨h_90,hp⟩
        ·try simp at h_90
         obtain ⟨y_91,h_92,hp⟩:=zaa hp
         cases Option.some.inj (h_76.symm.trans h_92)
         cases hp
         simp [Goal,FnEnd,h_4,h_19,h_25,h_48,h_52,q_66,q_67,q_68,q_69,q_70,q_71,q_72,q_73,h_78,h_79,h_90,c_77]
        ·try simp at h_90
         cases hp
         simp [Goal,FnEnd,h_4,h_19,h_25,h_48,h_52,q_66,q_67,q_68,q_69,q_70,q_71,q_72,q_73,h_78,h_79,h_90]
     ·try simp at h_52
      cases hp
      simp [Goal,FnEnd,h_4,h_19,h_25,q_39,q_40,q_41,q_42,q_43,q_44,q_45,q_46,h_48,h_52]
   ·try simp at h_25
    cases hp
    simp [Goal,FnEnd,h_4,h_19,h_25]
  ·try simp at h_19
   cases hp
   simp [Goal,FnEnd,h_4,h_19]
end Go.Proofs

