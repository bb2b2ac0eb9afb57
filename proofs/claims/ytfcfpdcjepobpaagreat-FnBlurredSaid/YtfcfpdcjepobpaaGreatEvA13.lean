import Derived.Test.YtfcfpdcjepobpaaGreatEvA12
set_option linter.unusedSimpArgs false
set_option linter.unusedVariables false
set_option linter.unnecessarySimpa false
noncomputable section
set_option maxHeartbeats 4000000
set_option maxRecDepth 100000
namespace Go.Proofs
open Go.Ev
def C5:List AV→Option AV:=specP (X:=(List U8) × Unit) fun x=>laws_big x.1
theorem C5_eq {code} {y} (h:laws_big code=some y):C5 [av .shr code]=some (Res.res y):=zah (x:=(code,())) h
def g5:Cfg:={ P:=Tryz.prog,take:=[],keep:=[],gho:=[],ctx:=[] }
@[simp] theorem g5_s:type_of% (cfg_s (g:=g5) rfl):=cfg_s rfl
theorem w5 {code} {y} (hp:laws_big code=some y):∃ m,callo g5 0 5 [av .shr code] mem0=some (Res.res y,m):=by
 refine st0 [.tmp 2] Tryz.func5 ?_
 unfold laws_big at hp
 cases hp
 simp [Tryz.f5,Goal,FnEnd]
theorem pc5:PC Tryz.prog 5 C5:=pc_of (g:=g5) (zag [] rfl trivial) (ent Tryz.func5) fun x y h=>w5 h

def C35:List AV→Option (List C):=specN (X:=(List U8) × Unit) (T:=TL1Cur) fun x=>zew x.1
theorem C35_eq {code} {y} (h:zew code=some y):C35 [av .shr code]=some (bxT y):=specN_eq (X:=(List U8) × Unit) (T:=TL1Cur) (F:=fun x=>zew x.1) (x:=(code,())) h
def g35:Cfg:={ P:=Tryz.prog,take:=[],keep:=[((35,3),{ hd:=[0,3,4],bx:=[],ex:=[0,3],rt:=[2] })],gho:=[],ctx:=[] }
@[simp] theorem g35_s:type_of% (cfg_s (g:=g35) rfl):=cfg_s rfl
theorem w35 {code} {y} (hp:zew code=some y):∃ out σ,evo g35 1 35 (Tryz.f35.body.getD .skip) { env:=fun t=>(([av .shr code]:List AV)[t]?).getD .dead,mem:=mem0 }=some out∧out.done=some σ∧σ.env 2=.one (.ptr (1,31) 0)∧σ.mem (1,31)=some (bxT y):=by
 refine start_N ?_
 unfold zew at hp
 simp [Tryz.f35]
 obtain ⟨r_15,h_16,hp⟩:=zaa hp
 obtain ⟨I_3,I_3_⟩:=exV fun (s_1:Int × Int) (σ:St)=>(σ.env 0=uL .shr code∧σ.env 3=uI s_1.1∧σ.env 4=uI s_1.2)∧NoBox [] σ.mem
 obtain ⟨X_4,X_4_⟩:=exV fun (r_15:Int) (out:Out)=>∃ σ:St,out=.exit 0 σ∧(σ.env 0=uL .shr code∧σ.env 3=uI r_15)∧NoBox [] σ.mem
 refine loopP ({ hd:=[0,3,4],bx:=[],ex:=[0,3],rt:=[2] }) I_3 X_4 h_16 (by exact rfl) ?_ ?_ ?_
 ·rw [I_3_]
  exact ⟨by simp [zac,zab],NoBox.restrict (by intro k hk hb;simp at hk hb;simp [hk,hb])⟩
 ·intro s_1 σ_5 a_2 hI hp
  rw [I_3_] at hI
  obtain ⟨q_7,hn_6⟩:=hI
  try simp [q_7]
  rcases zad hp with ⟨h_8,hp⟩|⟨h_8,hp⟩
  ·try simp at h_8
   try simp [q_7,h_8]
   rcases zad hp with ⟨h_9,hp⟩|⟨h_9,hp⟩
   ·try simp at h_9
    obtain ⟨e_10,h_11,hp⟩:=zaa hp
    have b_12:=at_lo h_11
    have b_13:=at_hi h_11
    try simp at b_12 b_13
    have c_14:=seg_at' h_11 0 1 (by decide) (ds:=[.sc (.int .u8 e_10.v)]) rfl
    try simp at c_14
    cases hp
    try simp [q_7,h_8,h_9,b_12,b_13,c_14,zpd Tryz.underlying5 Tryz.underlying3]
    refine zaf ?_
    rw [I_3_]
    exact ⟨by simp [zac,zab,q_7,h_8,h_9,b_12,b_13,c_14,zpd Tryz.underlying5 Tryz.underlying3],NoBox.restrict (by intro k hk hb;simp at hk hb;simp [hk,hb,q_7,h_8,h_9,b_12,b_13,c_14,zpd Tryz.underlying5 Tryz.underlying3,hn_6 k (by simp [hk,hb])])⟩
   ·try simp at h_9
    cases hp
    try simp [q_7,h_8,h_9]
    refine zai ?_
    rw [X_4_]
    exact ⟨_,rfl,by simp [zac,zab,q_7,h_8,h_9],NoBox.restrict (by intro k hk hb;simp at hk hb;simp [hk,hb,q_7,h_8,h_9,hn_6 k (by simp [hk,hb])])⟩
  ·try simp at h_8
   cases hp
   try simp [q_7,h_8]
   refine zai ?_
   rw [X_4_]
   exact ⟨_,rfl,by simp [zac,zab,q_7,h_8],NoBox.restrict (by intro k hk hb;simp at hk hb;simp [hk,hb,q_7,h_8,hn_6 k (by simp [hk,hb])])⟩
 ·intro out hX
  rw [X_4_] at hX
  obtain ⟨σ_17,rfl,q_19,hn_18⟩:=hX
  have n_20:=hn_18 (1,31) (by simp)
  cases hp
  simp [Goal,FnEndN,Out.done,q_19,n_20]
theorem bc35:BC Tryz.prog 35 C35:=bc_of (g:=g35) (zag [] rfl trivial) Tryz.func35 (by kernel_rfl) (by kernel_rfl) rfl (fun x=>by show _≤32;simp [Args.args]) fun x y h=>w35 h

def C66:List AV→Option AV:=specP (X:=Int × Int × Int × Unit) fun x=>zbh x.1 x.2.1 x.2.2.1
theorem zgn {x_ lo hi} {y} (h:zbh x_ lo hi=some y):C66 [av .shr x_,av .shr lo,av .shr hi]=some (Res.res y):=zah (x:=(x_,lo,hi,())) h
def g66:Cfg:={ P:=Tryz.prog,take:=[],keep:=[],gho:=[],ctx:=[] }
@[simp] theorem g66_s:type_of% (cfg_s (g:=g66) rfl):=cfg_s rfl
theorem w66 {x_ lo hi} {y} (hp:zbh x_ lo hi=some y):∃ m,callo g66 0 66 [av .shr x_,av .shr lo,av .shr hi] mem0=some (Res.res y,m):=by
 refine st0 [.tmp 6] Tryz.func66 ?_
 unfold zbh at hp
 simp [Tryz.f66]
 rcases zad hp with ⟨h_1,hp⟩|⟨h_1,hp⟩
 ·try simp at h_1
  cases hp
  simp [Goal,FnEnd,h_1]
 ·try simp at h_1
  cases hp
  simp [Goal,FnEnd,h_1]
theorem pc66:PC Tryz.prog 66 C66:=pc_of (g:=g66) (zag [] rfl trivial) (ent Tryz.func66) fun x y h=>w66 h

def C75:List AV→Option AV:=specP (X:=THeap × Unit) fun x=>zdr x.1
theorem C75_eq {h_} {y} (h:zdr h_=some y):C75 [av .shr h_]=some (Res.res y):=zah (x:=(h_,())) h
def g75:Cfg:={ P:=Tryz.prog,take:=[],keep:=[((75,2),{ hd:=[1,3],bx:=[],ex:=[1],rt:=[2] }),((75,7),{ hd:=[1,4],bx:=[],ex:=[],rt:=[2] })],gho:=[],ctx:=[(66,C66)] }
@[simp] theorem g75_s:type_of% (cfg_s (g:=g75) rfl):=cfg_s rfl
theorem w75 {h_} {y} (hp:zdr h_=some y):∃ m,callo g75 0 75 [av .shr h_] mem0=some (Res.res y,m):=by
 refine st0 [.tmp 2] Tryz.func75 ?_
 unfold zdr at hp
 simp [Tryz.f75]
 obtain ⟨r_18,h_19,hp⟩:=zaa hp
 obtain ⟨I_3,I_3_⟩:=exV fun (s_1:Int) (σ:St)=>(σ.env 1=uP (1,1)∧σ.env 3=uI s_1∧σ.mem (1,1)=some [cL .shr h_.vars,cL .shr h_.next])∧NoBox [(1,1)] σ.mem
 obtain ⟨X_4,X_4_⟩:=exV fun (r_18:(Unit) ⊕ (Unit)) (out:Out)=>Sum.elim (fun r_18=>∃ σ:St,out=.ret σ∧(σ.env 2=uB false∧σ.mem (1,1)=some [cL .shr h_.vars,cL .shr h_.next])∧NoBox [(1,1)] σ.mem) (fun r_18=>∃ σ:St,out=.exit 0 σ∧(σ.env 1=uP (1,1)∧σ.mem (1,1)=some [cL .shr h_.vars,cL .shr h_.next])∧NoBox [(1,1)] σ.mem) r_18
 refine loopP ({ hd:=[1,3],bx:=[],ex:=[1],rt:=[2] }) I_3 X_4 h_19 (by exact rfl) ?_ ?_ ?_
 ·rw [I_3_]
  exact ⟨by simp [zac,zab],NoBox.restrict (by intro k hk hb;simp at hk hb;simp [hk,hb])⟩
 ·intro s_1 σ_5 a_2 hI hp
  rw [I_3_] at hI
  obtain ⟨q_7,hn_6⟩:=hI
  try simp [q_7]
  rcases zad hp with ⟨h_8,hp⟩|⟨h_8,hp⟩
  ·try simp at h_8
   obtain ⟨e_9,h_10,hp⟩:=zaa hp
   have b_11:=at_lo h_10
   have b_12:=at_hi h_10
   try simp at b_11 b_12
   have c_13:=seg_at' h_10 0 1 (by decide) (ds:=[.sc (.int .i64 e_9)]) rfl
   try simp at c_13
   obtain ⟨y_14,h_15,hp⟩:=zaa hp
   have c_16:=zgn h_15
   simp at c_16
   try simp [q_7,h_8,b_11,b_12,c_13,c_16]
   rcases zad hp with ⟨h_17,hp⟩|⟨h_17,hp⟩
   ·try simp at h_17
    cases hp
    try simp [q_7,h_8,h_17]
    refine zaf ?_
    rw [I_3_]
    exact ⟨by simp [zac,zab,q_7,h_8,h_17],NoBox.restrict (by intro k hk hb;simp at hk hb;simp [hk,hb,q_7,h_8,h_17,hn_6 k (by simp [hk,hb])])⟩
   ·try simp at h_17
    cases hp
    try simp [q_7,h_8,h_17]
    refine zaq ?_
    rw [X_4_]
    exact ⟨_,rfl,by simp [zac,zab,q_7,h_8,h_17],NoBox.restrict (by intro k hk hb;simp at hk hb;simp [hk,hb,q_7,h_8,h_17,hn_6 k (by simp [hk,hb])])⟩
  ·try simp at h_8
   cases hp
   try simp [q_7,h_8]
   refine zai ?_
   rw [X_4_]
   exact ⟨_,rfl,by simp [zac,zab,q_7,h_8],NoBox.restrict (by intro k hk hb;simp at hk hb;simp [hk,hb,q_7,h_8,hn_6 k (by simp [hk,hb])])⟩
 ·intro out hX
  rw [X_4_] at hX
  rcases r_18 with r_18 | r_18
  ·simp only [Sum.elim_inl,Sum.elim_inr] at hX hp
   obtain ⟨σ_20,rfl,q_22,hn_21⟩:=hX
   cases hp
   simp [Goal,FnEnd,q_22]
  ·simp only [Sum.elim_inl,Sum.elim_inr] at hX hp
   obtain ⟨σ_23,rfl,q_25,hn_24⟩:=hX
   try simp [q_25]
   obtain ⟨r_43,h_44,hp⟩:=zaa hp
   obtain ⟨I_28,I_28_⟩:=exV fun (s_26:Int) (σ:St)=>(σ.env 1=uP (1,1)∧σ.env 4=uI s_26∧σ.mem (1,1)=some [cL .shr h_.vars,cL .shr h_.next])∧NoBox [(1,1)] σ.mem
   obtain ⟨X_29,X_29_⟩:=exV fun (r_43:(Bool) ⊕ (Unit)) (out:Out)=>Sum.elim (fun r_43=>∃ σ:St,out=.ret σ∧(σ.env 2=uB r_43∧σ.mem (1,1)=some [cL .shr h_.vars,cL .shr h_.next])∧NoBox [(1,1)] σ.mem) (fun r_43=>∃ σ:St,out=.exit 2 σ∧σ.mem (1,1)=some [cL .shr h_.vars,cL .shr h_.next]∧NoBox [(1,1)] σ.mem) r_43
   refine loopP ({ hd:=[1,4],bx:=[],ex:=[],rt:=[2] }) I_28 X_29 h_44 (by exact rfl) ?_ ?_ ?_
   ·rw [I_28_]
    exact ⟨by simp [zac,zab,q_25],NoBox.restrict (by intro k hk hb;simp at hk hb;simp [hk,hb,q_25,hn_24 k (by simp [hk,hb])])⟩
   ·intro s_26 σ_30 a_27 hI hp
    rw [I_28_] at hI
    obtain ⟨q_32,hn_31⟩:=hI
    try simp [q_32]
    rcases zad hp with ⟨h_33,hp⟩|⟨h_33,hp⟩
    ·try simp at h_33
     obtain ⟨e_34,h_35,hp⟩:=zaa hp
     have b_36:=at_lo h_35
     have b_37:=at_hi h_35
     try simp at b_36 b_37
     have c_38:=seg_at' h_35 0 1 (by decide) (ds:=[.sc (.int .i64 e_34)]) rfl
     try simp at c_38
     obtain ⟨y_39,h_40,hp⟩:=zaa hp
     have c_41:=zgn h_40
     simp at c_41
     try simp [q_32,h_33,b_36,b_37,c_38,c_41]
     rcases zad hp with ⟨h_42,hp⟩|⟨h_42,hp⟩
     ·try simp at h_42
      cases hp
      try simp [q_32,h_33,h_42]
      refine zaf ?_
      rw [I_28_]
      exact ⟨by simp [zac,zab,q_32,h_33,h_42],NoBox.restrict (by intro k hk hb;simp at hk hb;simp [hk,hb,q_32,h_33,h_42,hn_31 k (by simp [hk,hb])])⟩
     ·try simp at h_42
      cases hp
      try simp [q_32,h_33,h_42]
      refine zaq ?_
      rw [X_29_]
      exact ⟨_,rfl,by simp [zac,zab,q_32,h_33,h_42],NoBox.restrict (by intro k hk hb;simp at hk hb;simp [hk,hb,q_32,h_33,h_42,hn_31 k (by simp [hk,hb])])⟩
    ·try simp at h_33
     cases hp
     try simp [q_32,h_33]
     refine zai ?_
     rw [X_29_]
     exact ⟨_,rfl,by simp [zac,zab,q_32,h_33],NoBox.restrict (by intro k hk hb;simp at hk hb;simp [hk,hb,q_32,h_33,hn_31 k (by simp [hk,hb])])⟩
   ·intro out hX
    rw [X_29_] at hX
    rcases r_43 with r_43 | r_43
    ·simp only [Sum.elim_inl,Sum.elim_inr] at hX hp
     obtain ⟨σ_45,rfl,q_47,hn_46⟩:=hX
     cases hp
     simp [Goal,FnEnd,q_47]
    ·simp only [Sum.elim_inl,Sum.elim_inr] at hX hp
     obtain ⟨σ_48,rfl,q_50,hn_49⟩:=hX
     cases hp
     simp [Goal,FnEnd,q_50]
theorem pc75:PC Tryz.prog 75 C75:=pc_of (g:=g75) (zag _ g75_s.2.1 ⟨pc66,trivial⟩) (ent Tryz.func75) fun x y h=>w75 h

def C86:List AV→Option AV:=specP (X:=(List Int) × Int × Unit) fun x=>zca x.1 x.2.1
theorem C86_eq {list n_} {y} (h:zca list n_=some y):C86 [av .shr list,av .shr n_]=some (Res.res y):=zah (x:=(list,n_,())) h
def g86:Cfg:={ P:=Tryz.prog,take:=[(86,20),(86,24)],keep:=[((86,3),{ hd:=[0,1,5,6],bx:=[],ex:=[5],rt:=[4] })],gho:=[],ctx:=[] }
@[simp] theorem g86_s:type_of% (cfg_s (g:=g86) rfl):=cfg_s rfl
theorem w86 {list n_} {y} (hp:zca list n_=some y):∃ m,callo g86 0 86 [av .shr list,av .shr n_] mem0=some (Res.res y,m):=by
 refine st0 [.tmp 4] Tryz.func86 ?_
 unfold zca at hp
 simp [Tryz.f86]
 obtain ⟨r_17,h_18,hp⟩:=zaa hp
 obtain ⟨I_3,I_3_⟩:=exV fun (s_1:(List Int) × Int) (σ:St)=>(σ.env 0=uL .shr list∧σ.env 1=uI n_∧σ.env 5=uL .own s_1.1∧σ.env 6=uI s_1.2)∧σ.mem=mem0
 obtain ⟨X_4,X_4_⟩:=exV fun (r_17:(List Int)) (out:Out)=>∃ σ:St,out=.exit 0 σ∧σ.env 5=uL .own r_17∧σ.mem=mem0
 refine loopP ({ hd:=[0,1,5,6],bx:=[],ex:=[5],rt:=[4] }) I_3 X_4 h_18 (by exact rfl) ?_ ?_ ?_
 ·rw [I_3_]
  exact ⟨by simp [zac,zab],by simp [zab]⟩
 ·intro s_1 σ_5 a_2 hI hp
  rw [I_3_] at hI
  obtain ⟨q_7,q_6⟩:=hI
  try simp [q_7,q_6]
  rcases zad hp with ⟨h_8,hp⟩|⟨h_8,hp⟩
  ·try simp at h_8
   obtain ⟨e_9,h_10,hp⟩:=zaa hp
   have b_11:=at_lo h_10
   have b_12:=at_hi h_10
   try simp at b_11 b_12
   have c_13:=seg_at' h_10 0 1 (by decide) (ds:=[.sc (.int .i64 e_9)]) rfl
   try simp at c_13
   try simp [q_7,q_6,h_8,b_11,b_12,c_13]
   rcases zad hp with ⟨h_14,hp⟩|⟨h_14,hp⟩
   ·try simp at h_14
    obtain ⟨_,h_15,hp⟩:=zaa hp
    have b_16:=zbc h_15
    try simp at b_16
    cases hp
    try simp [q_7,q_6,h_8,h_14,b_16]
    refine zaf ?_
    rw [I_3_]
    exact ⟨by simp [zac,zab,q_7,q_6,h_8,h_14,b_16],by simp [zab,q_7,q_6,h_8,h_14,b_16]⟩
   ·try simp at h_14
    cases hp
    try simp [q_7,q_6,h_8,h_14]
    refine zaf ?_
    rw [I_3_]
    exact ⟨by simp [zac,zab,q_7,q_6,h_8,h_14],by simp [zab,q_7,q_6,h_8,h_14]⟩
  ·try simp at h_8
   cases hp
   try simp [q_7,q_6,h_8]
   refine zai ?_
   rw [X_4_]
   exact ⟨_,rfl,by simp [zac,zab,q_7,q_6,h_8],by simp [zab,q_7,q_6,h_8]⟩
 ·intro out hX
  rw [X_4_] at hX
  obtain ⟨σ_19,rfl,q_21,q_20⟩:=hX
  cases hp
  simp [Goal,FnEnd,q_21,q_20]
theorem pc86:PC Tryz.prog 86 C86:=pc_of (g:=g86) (zag [] rfl trivial) (ent Tryz.func86) fun x y h=>w86 h

def C87:List AV→Option AV:=specP (X:=(List Int) × Int × Unit) fun x=>zci x.1 x.2.1
theorem C87_eq {list n_} {y} (h:zci list n_=some y):C87 [av .shr list,av .shr n_]=some (Res.res y):=zah (x:=(list,n_,())) h
def g87:Cfg:={ P:=Tryz.prog,take:=[],keep:=[],gho:=[],ctx:=[(86,C86)] }
@[simp] theorem g87_s:type_of% (cfg_s (g:=g87) rfl):=cfg_s rfl
theorem w87 {list n_} {y} (hp:zci list n_=some y):∃ m,callo g87 0 87 [av .shr list,av .shr n_] mem0=some (Res.res y,m):=by
 refine st0 [.tmp 4] Tryz.func87 ?_
 unfold zci at hp
 obtain ⟨y_1,h_2,hp⟩:=zaa hp
 have c_3:=C86_eq h_2
 simp at c_3
 cases hp
 simp [Tryz.f87,Goal,FnEnd,c_3]
theorem pc87:PC Tryz.prog 87 C87:=pc_of (g:=g87) (zag _ g87_s.2.1 ⟨pc86,trivial⟩) (ent Tryz.func87) fun x y h=>w87 h

def C88:List AV→Option AV:=specP (X:=THeap × Int × Unit) fun x=>zcu x.1 x.2.1
theorem C88_eq {h_ cell} {y} (h:zcu h_ cell=some y):C88 [av .shr h_,av .shr cell]=some (Res.res y):=zah (x:=(h_,cell,())) h
def g88:Cfg:={ P:=Tryz.prog,take:=[(88,23),(88,32)],keep:=[((88,2),{ hd:=[1,2,5],bx:=[],ex:=[5],rt:=[4] })],gho:=[],ctx:=[(66,C66),(87,C87)] }
@[simp] theorem g88_s:type_of% (cfg_s (g:=g88) rfl):=cfg_s rfl
theorem w88 {h_ cell} {y} (hp:zcu h_ cell=some y):∃ m,callo g88 0 88 [av .shr h_,av .shr cell] mem0=some (Res.res y,m):=by
 refine st0 [.tmp 4] Tryz.func88 ?_
 unfold zcu at hp
 simp [Tryz.f88]
 obtain ⟨r_24,h_25,hp⟩:=zaa hp
 obtain ⟨I_3,I_3_⟩:=exV fun (s_1:Int × (List Int)) (σ:St)=>(σ.env 1=uI s_1.1∧σ.env 2=uP (1,2)∧σ.env 5=uL .own s_1.2∧σ.mem (1,2)=some [cL .shr h_.vars,cL .shr h_.next])∧NoBox [(1,2)] σ.mem
 obtain ⟨X_4,X_4_⟩:=exV fun (r_24:((List Int)) ⊕ (Unit)) (out:Out)=>Sum.elim (fun r_24=>∃ σ:St,out=.exit 0 σ∧(σ.env 5=uL .own r_24∧σ.mem (1,2)=some [cL .shr h_.vars,cL .shr h_.next])∧NoBox [(1,2)] σ.mem) (fun r_24=>∃ σ:St,out=.ret σ∧(σ.env 4=.one (.l .own 0 [])∧σ.mem (1,2)=some [cL .shr h_.vars,cL .shr h_.next])∧NoBox [(1,2)] σ.mem) r_24
 refine loopP ({ hd:=[1,2,5],bx:=[],ex:=[5],rt:=[4] }) I_3 X_4 h_25 (by exact rfl) ?_ ?_ ?_
 ·rw [I_3_]
  exact ⟨by simp [zac,zab],NoBox.restrict (by intro k hk hb;simp at hk hb;simp [hk,hb])⟩
 ·intro s_1 σ_5 a_2 hI hp
  rw [I_3_] at hI
  obtain ⟨q_7,hn_6⟩:=hI
  try simp [q_7]
  rcases zad hp with ⟨h_8,hp⟩|⟨h_8,hp⟩
  ·try simp at h_8
   obtain ⟨y_9,h_10,hp⟩:=zaa hp
   have c_11:=C87_eq h_10
   simp at c_11
   try simp [q_7,h_8,c_11]
   rcases zad hp with ⟨h_12,hp⟩|⟨h_12,hp⟩
   ·try simp at h_12
    cases hp
    try simp [q_7,h_8,h_12]
    refine zai ?_
    rw [X_4_]
    exact ⟨_,rfl,by simp [zac,zab,q_7,h_8,h_12],NoBox.restrict (by intro k hk hb;simp at hk hb;simp [hk,hb,q_7,h_8,h_12,hn_6 k (by simp [hk,hb])])⟩
   ·try simp at h_12
    obtain ⟨y_13,h_14,hp⟩:=zaa hp
    have c_15:=zgn h_14
    simp at c_15
    try simp [q_7,h_8,h_12,c_15]
    rcases zad hp with ⟨h_16,hp⟩|⟨h_16,hp⟩
    ·try simp at h_16
     obtain ⟨_,h_17,hp⟩:=zaa hp
     have b_18:=zbc h_17
     try simp at b_18
     obtain ⟨e_19,h_20,hp⟩:=zaa hp
     have b_21:=at_lo h_20
     have b_22:=at_hi h_20
     try simp at b_21 b_22
     have c_23:=seg_at' h_20 0 1 (by decide) (ds:=[.sc (.int .i64 e_19)]) rfl
     try simp at c_23
     cases hp
     try simp [q_7,h_8,h_12,h_16,b_18,b_21,b_22,c_23]
     refine zaf ?_
     rw [I_3_]
     exact ⟨by simp [zac,zab,q_7,h_8,h_12,h_16,b_18,b_21,b_22,c_23],NoBox.restrict (by intro k hk hb;simp at hk hb;simp [hk,hb,q_7,h_8,h_12,h_16,b_18,b_21,b_22,c_23,hn_6 k (by simp [hk,hb])])⟩
    ·try simp at h_16
     cases hp
     try simp [q_7,h_8,h_12,h_16]
     refine zaq ?_
     rw [X_4_]
     exact ⟨_,rfl,by simp [zac,zab,q_7,h_8,h_12,h_16],NoBox.restrict (by intro k hk hb;simp at hk hb;simp [hk,hb,q_7,h_8,h_12,h_16,hn_6 k (by simp [hk,hb])])⟩
  ·try simp at h_8
   cases hp
   try simp [q_7,h_8]
   refine zai ?_
   rw [X_4_]
   exact ⟨_,rfl,by simp [zac,zab,q_7,h_8],NoBox.restrict (by intro k hk hb;simp at hk hb;simp [hk,hb,q_7,h_8,hn_6 k (by simp [hk,hb])])⟩
 ·intro out hX
  rw [X_4_] at hX
  rcases r_24 with r_24 | r_24
  ·simp only [Sum.elim_inl,Sum.elim_inr] at hX hp
   obtain ⟨σ_26,rfl,q_28,hn_27⟩:=hX
   cases hp
   simp [Goal,FnEnd,q_28]
  ·simp only [Sum.elim_inl,Sum.elim_inr] at hX hp
   obtain ⟨σ_29,rfl,q_31,hn_30⟩:=hX
   cases hp
   simp [Goal,FnEnd,q_31]
theorem pc88:PC Tryz.prog 88 C88:=pc_of (g:=g88) (zag _ g88_s.2.1 ⟨pc66,pc87,trivial⟩) (ent Tryz.func88) fun x y h=>w88 h

def C77:List AV→Option AV:=specP (X:=THeap × Unit) fun x=>zel x.1
theorem C77_eq {h_} {y} (h:zel h_=some y):C77 [av .shr h_]=some (Res.res y):=zah (x:=(h_,())) h
def g77:Cfg:={ P:=Tryz.prog,take:=[(77,35),(77,42)],keep:=[((77,3),{ hd:=[1,3,4],bx:=[],ex:=[3],rt:=[2] }),((77,7),{ hd:=[1,3,4,5,6],bx:=[],ex:=[1,3,4],rt:=[2] })],gho:=[],ctx:=[(87,C87),(88,C88)] }
@[simp] theorem g77_s:type_of% (cfg_s (g:=g77) rfl):=cfg_s rfl
theorem w77 {h_} {y} (hp:zel h_=some y):∃ m,callo g77 0 77 [av .shr h_] mem0=some (Res.res y,m):=by
 refine st0 [.tmp 2] Tryz.func77 ?_
 unfold zel at hp
 simp [Tryz.f77]
 obtain ⟨r_46,h_47,hp⟩:=zaa hp
 obtain ⟨I_3,I_3_⟩:=exV fun (s_1:(List Int) × Int) (σ:St)=>(σ.env 1=uP (1,1)∧σ.env 3=uL .own s_1.1∧σ.env 4=uI s_1.2∧σ.mem (1,1)=some [cL .shr h_.vars,cL .shr h_.next])∧NoBox [(1,1)] σ.mem
 obtain ⟨X_4,X_4_⟩:=exV fun (r_46:(List Int)) (out:Out)=>∃ σ:St,out=.exit 0 σ∧(σ.env 3=uL .own r_46∧σ.mem (1,1)=some [cL .shr h_.vars,cL .shr h_.next])∧NoBox [(1,1)] σ.mem
 refine loopP ({ hd:=[1,3,4],bx:=[],ex:=[3],rt:=[2] }) I_3 X_4 h_47 (by exact rfl) ?_ ?_ ?_
 ·rw [I_3_]
  exact ⟨by simp [zac,zab],NoBox.restrict (by intro k hk hb;simp at hk hb;simp [hk,hb])⟩
 ·intro s_1 σ_5 a_2 hI hp
  rw [I_3_] at hI
  obtain ⟨q_7,hn_6⟩:=hI
  try simp [q_7]
  rcases zad hp with ⟨h_8,hp⟩|⟨h_8,hp⟩
  ·try simp at h_8
   obtain ⟨e_9,h_10,hp⟩:=zaa hp
   have b_11:=at_lo h_10
   have b_12:=at_hi h_10
   try simp at b_11 b_12
   have c_13:=seg_at' h_10 0 1 (by decide) (ds:=[.sc (.int .i64 e_9)]) rfl
   try simp at c_13
   obtain ⟨y_14,h_15,hp⟩:=zaa hp
   have c_16:=C88_eq h_15
   simp at c_16
   try simp [q_7,h_8,b_11,b_12,c_13,c_16]
   obtain ⟨r_41,h_42,hp⟩:=zaa hp
   obtain ⟨I_19,I_19_⟩:=exV fun (s_17:Int × (List Int)) (σ:St)=>(σ.env 1=uP (1,1)∧σ.env 3=uL .own s_17.2∧σ.env 4=uI s_1.2∧σ.env 5=uL .own y_14∧σ.env 6=uI s_17.1∧σ.mem (1,1)=some [cL .shr h_.vars,cL .shr h_.next])∧NoBox [(1,1)] σ.mem
   obtain ⟨X_20,X_20_⟩:=exV fun (r_41:(List Int)) (out:Out)=>∃ σ:St,out=.exit 2 σ∧(σ.env 1=uP (1,1)∧σ.env 3=uL .own r_41∧σ.env 4=uI s_1.2∧σ.mem (1,1)=some [cL .shr h_.vars,cL .shr h_.next])∧NoBox [(1,1)] σ.mem
   refine loopP ({ hd:=[1,3,4,5,6],bx:=[],ex:=[1,3,4],rt:=[2] }) I_19 X_20 h_42 (by exact rfl) ?_ ?_ ?_
   ·rw [I_19_]
    exact ⟨by simp [zac,zab,q_7,h_8],NoBox.restrict (by intro k hk hb;simp at hk hb;simp [hk,hb,q_7,h_8,hn_6 k (by simp [hk,hb])])⟩
   ·intro s_17 σ_21 a_18 hI hp
    rw [I_19_] at hI
    obtain ⟨q_23,hn_22⟩:=hI
    try simp [h_8,q_23]
    rcases zad hp with ⟨h_24,hp⟩|⟨h_24,hp⟩
    ·try simp at h_24
     obtain ⟨e_25,h_26,hp⟩:=zaa hp
     have b_27:=at_lo h_26
     have b_28:=at_hi h_26
     try simp at b_27 b_28
     have c_29:=seg_at' h_26 0 1 (by decide) (ds:=[.sc (.int .i64 e_25)]) rfl
     try simp at c_29
     obtain ⟨y_30,h_31,hp⟩:=zaa hp
     have c_32:=C87_eq h_31
     simp at c_32
     try simp [h_8,q_23,h_24,b_27,b_28,c_29,c_32]
     rcases zad hp with ⟨h_33,hp⟩|⟨h_33,hp⟩
     ·try simp at h_33
      cases hp
      try simp [h_8,q_23,h_24,h_33]
      refine zaf ?_
      rw [I_19_]
      exact ⟨by simp [zac,zab,h_8,q_23,h_24,h_33],NoBox.restrict (by intro k hk hb;simp at hk hb;simp [hk,hb,h_8,q_23,h_24,h_33,hn_22 k (by simp [hk,hb])])⟩
     ·try simp at h_33
      obtain ⟨e_34,h_35,hp⟩:=zaa hp
      cases Option.some.inj (h_26.symm.trans h_35)
      have b_36:=at_lo h_26
      have b_37:=at_hi h_26
      try simp at b_36 b_37
      have c_38:=seg_at' h_26 0 1 (by decide) (ds:=[.sc (.int .i64 e_25)]) rfl
      try simp at c_38
      obtain ⟨_,h_39,hp⟩:=zaa hp
      have b_40:=zbc h_39
      try simp at b_40
      cases hp
      try simp [h_8,q_23,h_24,h_33,b_36,b_37,c_38,b_40]
      refine zaf ?_
      rw [I_19_]
      exact ⟨by simp [zac,zab,h_8,q_23,h_24,h_33,b_36,b_37,c_38,b_40],NoBox.restrict (by intro k hk hb;simp at hk hb;simp [hk,hb,h_8,q_23,h_24,h_33,b_36,b_37,c_38,b_40,hn_22 k (by simp [hk,hb])])⟩
    ·try simp at h_24
     cases hp
     try simp [h_8,q_23,h_24]
     refine zai ?_
     rw [X_20_]
     exact ⟨_,rfl,by simp [zac,zab,h_8,q_23,h_24],NoBox.restrict (by intro k hk hb;simp at hk hb;simp [hk,hb,h_8,q_23,h_24,hn_22 k (by simp [hk,hb])])⟩
   ·intro out hX
    rw [X_20_] at hX
    obtain ⟨σ_43,rfl,q_45,hn_44⟩:=hX
    cases hp
    try simp [h_8,q_45]
    refine zaf ?_
    rw [I_3_]
    exact ⟨by simp [zac,zab,h_8,q_45],NoBox.restrict (by intro k hk hb;simp at hk hb;simp [hk,hb,h_8,q_45,hn_44 k (by simp [hk,hb])])⟩
  ·try simp at h_8
   cases hp
   try simp [q_7,h_8]
   refine zai ?_
   rw [X_4_]
   exact ⟨_,rfl,by simp [zac,zab,q_7,h_8],NoBox.restrict (by intro k hk hb;simp at hk hb;simp [hk,hb,q_7,h_8,hn_6 k (by simp [hk,hb])])⟩
 ·intro out hX
  rw [X_4_] at hX
  obtain ⟨σ_48,rfl,q_50,hn_49⟩:=hX
  cases hp
  simp [Goal,FnEnd,q_50]
theorem pc77:PC Tryz.prog 77 C77:=pc_of (g:=g77) (zag _ g77_s.2.1 ⟨pc87,pc88,trivial⟩) (ent Tryz.func77) fun x y h=>w77 h

def C145:List AV→Option AV:=specP (X:=(List Int) × Int × Unit) fun x=>zev x.1 x.2.1
theorem C145_eq {order cell} {y} (h:zev order cell=some y):C145 [av .shr order,av .shr cell]=some (Res.res y):=zah (x:=(order,cell,())) h
def g145:Cfg:={ P:=Tryz.prog,take:=[],keep:=[],gho:=[],ctx:=[(86,C86)] }
@[simp] theorem g145_s:type_of% (cfg_s (g:=g145) rfl):=cfg_s rfl
theorem w145 {order cell} {y} (hp:zev order cell=some y):∃ m,callo g145 0 145 [av .shr order,av .shr cell] mem0=some (Res.res y,m):=by
 refine st0 [.tmp 4] Tryz.func145 ?_
 unfold zev at hp
 obtain ⟨y_1,h_2,hp⟩:=zaa hp
 have c_3:=C86_eq h_2
 simp at c_3
 simp [Tryz.f145,c_3]
 rcases zad hp with ⟨h_4,hp⟩|⟨h_4,hp⟩
 ·try simp at h_4
  cases hp
  simp [Goal,FnEnd,h_4]
 ·try simp at h_4
  obtain ⟨e_5,h_6,hp⟩:=zaa hp
  have b_8:=at_hi h_6
  try simp at b_8
  have c_9:=seg_at' h_6 0 1 (by decide) (ds:=[.sc (.int .i64 e_5)]) rfl
  try simp at c_9
  cases hp
  simp [Goal,FnEnd,h_4,b_8,c_9]
theorem pc145:PC Tryz.prog 145 C145:=pc_of (g:=g145) (zag _ g145_s.2.1 ⟨pc86,trivial⟩) (ent Tryz.func145) fun x y h=>w145 h

def C117:List AV→Option AV:=specP (X:=THeap × Unit) fun x=>zec x.1
theorem C117_eq {h_} {y} (h:zec h_=some y):C117 [av .shr h_]=some (Res.res y):=zah (x:=(h_,())) h
def g117:Cfg:={ P:=Tryz.prog,take:=[(117,22),(117,40),(117,54)],keep:=[((117,6),{ hd:=[1,2,3,4,5],bx:=[],ex:=[1,2,3,4],rt:=[2] }),((117,10),{ hd:=[1,2,3,4,6],bx:=[],ex:=[2,4],rt:=[2] })],gho:=[],ctx:=[(75,C75),(77,C77),(145,C145)] }
@[simp] theorem g117_s:type_of% (cfg_s (g:=g117) rfl):=cfg_s rfl
theorem w117 {h_} {y} (hp:zec h_=some y):∃ m,callo g117 0 117 [av .shr h_] mem0=some (Res.res y,m):=by
 refine st0 [.cell 2 36] Tryz.func117 ?_
 unfold zec at hp
 obtain ⟨y_1,h_2,hp⟩:=zaa hp
 have c_3:=C75_eq h_2
 simp at c_3
 simp [Tryz.f117,c_3]
 rcases zad hp with ⟨h_4,hp⟩|⟨h_4,hp⟩
 ·try simp at h_4
  obtain ⟨y_5,h_6,hp⟩:=zaa hp
  have c_7:=C77_eq h_6
  simp at c_7
  try simp [h_4,c_7]
  obtain ⟨r_26,h_27,hp⟩:=zaa hp
  obtain ⟨I_10,I_10_⟩:=exV fun (s_8:Int × (List Int)) (σ:St)=>(σ.env 1=uP (1,1)∧σ.env 2=uP (1,2)∧σ.env 3=uL .own y_5∧σ.env 4=uP (1,4)∧σ.env 5=uI s_8.1∧σ.mem (1,1)=some [cL .shr h_.vars,cL .shr h_.next]∧σ.mem (1,2)=some [.l .own 0 [],.l .own 0 []]∧σ.mem (1,4)=some [cL .own s_8.2,.l .own 0 []])∧NoBox [(1,1),(1,2),(1,4)] σ.mem
  obtain ⟨X_11,X_11_⟩:=exV fun (r_26:(List Int)) (out:Out)=>∃ σ:St,out=.exit 0 σ∧(σ.env 1=uP (1,1)∧σ.env 2=uP (1,2)∧σ.env 3=uL .own y_5∧σ.env 4=uP (1,4)∧σ.mem (1,1)=some [cL .shr h_.vars,cL .shr h_.next]∧σ.mem (1,2)=some [.l .own 0 [],.l .own 0 []]∧σ.mem (1,4)=some [cL .own r_26,.l .own 0 []])∧NoBox [(1,1),(1,2),(1,4)] σ.mem
  refine loopP ({ hd:=[1,2,3,4,5],bx:=[],ex:=[1,2,3,4],rt:=[2] }) I_10 X_11 h_27 (by exact rfl) ?_ ?_ ?_
  ·rw [I_10_]
   exact ⟨by simp [zac,zab,h_4],NoBox.restrict (by intro k hk hb;simp at hk hb;simp [hk,hb,h_4])⟩
  ·intro s_8 σ_12 a_9 hI hp
   rw [I_10_] at hI
   obtain ⟨q_14,hn_13⟩:=hI
   try simp [h_4,q_14]
   rcases zad hp with ⟨h_15,hp⟩|⟨h_15,hp⟩
   ·try simp at h_15
    obtain ⟨e_16,h_17,hp⟩:=zaa hp
    have b_18:=at_lo h_17
    have b_19:=at_hi h_17
    try simp at b_18 b_19
    have c_20:=seg_at' h_17 0 1 (by decide) (ds:=[.sc (.int .i64 e_16)]) rfl
    try simp at c_20
    obtain ⟨y_21,h_22,hp⟩:=zaa hp
    have c_23:=C145_eq h_22
    simp at c_23
    obtain ⟨_,h_24,hp⟩:=zaa hp
    have b_25:=zbc h_24
    try simp at b_25
    cases hp
    try simp [h_4,q_14,h_15,b_18,b_19,c_20,c_23,b_25]
    refine zaf ?_
    rw [I_10_]
    exact ⟨by simp [zac,zab,h_4,q_14,h_15,b_18,b_19,c_20,c_23,b_25],NoBox.restrict (by intro k hk hb;simp at hk hb;simp [hk,hb,h_4,q_14,h_15,b_18,b_19,c_20,c_23,b_25,hn_13 k (by simp [hk,hb])])⟩
   ·try simp at h_15
    cases hp
    try simp [h_4,q_14,h_15]
    refine zai ?_
    rw [X_11_]
    exact ⟨_,rfl,by simp [zac,zab,h_4,q_14,h_15],NoBox.restrict (by intro k hk hb;simp at hk hb;simp [hk,hb,h_4,q_14,h_15,hn_13 k (by simp [hk,hb])])⟩
  ·intro out hX
   rw [X_11_] at hX
   obtain ⟨σ_28,rfl,q_30,hn_29⟩:=hX
   try simp [h_4,q_30]
   obtain ⟨r_54,h_55,hp⟩:=zaa hp
   obtain ⟨I_33,I_33_⟩:=exV fun (s_31:Int × (List Int)) (σ:St)=>(σ.env 1=uP (1,1)∧σ.env 2=uP (1,2)∧σ.env 3=uL .own y_5∧σ.env 4=uP (1,4)∧σ.env 6=uI s_31.1∧σ.mem (1,1)=some [cL .shr h_.vars,cL .shr h_.next]∧σ.mem (1,2)=some [.l .own 0 [],.l .own 0 []]∧σ.mem (1,4)=some [cL .own r_26,cL .own s_31.2])∧NoBox [(1,1),(1,2),(1,4)] σ.mem
   obtain ⟨X_34,X_34_⟩:=exV fun (r_54:(List Int)) (out:Out)=>∃ σ:St,out=.exit 2 σ∧(σ.env 2=uP (1,2)∧σ.env 4=uP (1,4)∧σ.mem (1,1)=some [cL .shr h_.vars,cL .shr h_.next]∧σ.mem (1,2)=some [.l .own 0 [],.l .own 0 []]∧σ.mem (1,4)=some [cL .own r_26,cL .own r_54])∧NoBox [(1,1),(1,2),(1,4)] σ.mem
   refine loopP ({ hd:=[1,2,3,4,6],bx:=[],ex:=[2,4],rt:=[2] }) I_33 X_34 h_55 (by exact rfl) ?_ ?_ ?_
   ·rw [I_33_]
    exact ⟨by simp [zac,zab,h_4,q_30],NoBox.restrict (by intro k hk hb;simp at hk hb;simp [hk,hb,h_4,q_30,hn_29 k (by simp [hk,hb])])⟩
   ·intro s_31 σ_35 a_32 hI hp
    rw [I_33_] at hI
    obtain ⟨q_37,hn_36⟩:=hI
    try simp [h_4,q_37]
    rcases zad hp with ⟨h_38,hp⟩|⟨h_38,hp⟩
    ·try simp at h_38
     obtain ⟨e_39,h_40,hp⟩:=zaa hp
     have b_41:=at_lo h_40
     have b_42:=at_hi h_40
     try simp at b_41 b_42
     have c_43:=seg_at' h_40 0 1 (by decide) (ds:=[.sc (.int .i64 e_39)]) rfl
     try simp at c_43
     obtain ⟨e_44,h_45,hp⟩:=zaa hp
     have b_46:=at_lo h_45
     have b_47:=at_hi h_45
     try simp at b_46 b_47
     have c_48:=seg_at' h_45 0 1 (by decide) (ds:=[.sc (.int .i64 e_44)]) rfl
     try simp at c_48
     obtain ⟨y_49,h_50,hp⟩:=zaa hp
     have c_51:=C145_eq h_50
     simp at c_51
     obtain ⟨_,h_52,hp⟩:=zaa hp
     have b_53:=zbc h_52
     try simp at b_53
     cases hp
     try simp [h_4,q_37,h_38,b_41,b_42,c_43,b_46,b_47,c_48,c_51,b_53]
     refine zaf ?_
     rw [I_33_]
     exact ⟨by simp [zac,zab,h_4,q_37,h_38,b_41,b_42,c_43,b_46,b_47,c_48,c_51,b_53],NoBox.restrict (by intro k hk hb;simp at hk hb;simp [hk,hb,h_4,q_37,h_38,b_41,b_42,c_43,b_46,b_47,c_48,c_51,b_53,hn_36 k (by simp [hk,hb])])⟩
    ·try simp at h_38
     cases hp
     try simp [h_4,q_37,h_38]
     refine zai ?_
     rw [X_34_]
     exact ⟨_,rfl,by simp [zac,zab,h_4,q_37,h_38],NoBox.restrict (by intro k hk hb;simp at hk hb;simp [hk,hb,h_4,q_37,h_38,hn_36 k (by simp [hk,hb])])⟩
   ·intro out hX
    rw [X_34_] at hX
    obtain ⟨σ_56,rfl,q_58,hn_57⟩:=hX
    cases hp
    simp [Goal,FnEnd,retR,rsrc,RSrc.val,nodupR,nodup,tupPart,h_4,q_58]
 ·try simp at h_4
  cases hp
  simp [Goal,FnEnd,retR,rsrc,RSrc.val,nodupR,nodup,tupPart,h_4]
theorem pc117:PC Tryz.prog 117 C117:=pc_of (g:=g117) (zag _ g117_s.2.1 ⟨pc75,pc77,pc145,trivial⟩) (ent Tryz.func117) fun x y h=>w117 h

def C85:List AV→Option AV:=specP (X:=Bool × Unit) fun x=>zfw x.1
theorem C85_eq {on} {y} (h:zfw on=some y):C85 [av .shr on]=some (Res.res y):=zah (x:=(on,())) h
def g85:Cfg:={ P:=Tryz.prog,take:=[],keep:=[],gho:=[],ctx:=[] }
@[simp] theorem g85_s:type_of% (cfg_s (g:=g85) rfl):=cfg_s rfl
theorem w85 {on} {y} (hp:zfw on=some y):∃ m,callo g85 0 85 [av .shr on] mem0=some (Res.res y,m):=by
 refine st0 [.tmp 2] Tryz.func85 ?_
 unfold zfw at hp
 simp [Tryz.f85]
 rcases zad hp with ⟨h_1,hp⟩|⟨h_1,hp⟩
 ·try simp at h_1
  cases hp
  simp [Goal,FnEnd,h_1]
 ·try simp at h_1
  cases hp
  simp [Goal,FnEnd,h_1]
theorem pc85:PC Tryz.prog 85 C85:=pc_of (g:=g85) (zag [] rfl trivial) (ent Tryz.func85) fun x y h=>w85 h

def C45:List AV→Option AV:=specP (X:=THeap × Unit) fun x=>zbq x.1
theorem C45_eq {h_} {y} (h:zbq h_=some y):C45 [av .shr h_]=some (Res.res y):=zah (x:=(h_,())) h
def g45:Cfg:={ P:=Tryz.prog,take:=[(45,49),(45,62),(45,77),(45,78),(45,88),(45,100)],keep:=[((45,6),{ hd:=[1,2,3,4,5],bx:=[6],ex:=[2,4],rt:=[2] }),((45,10),{ hd:=[1,2,3,4,5,6,7],bx:=[],ex:=[1,2,3,4,5,6],rt:=[2] }),((45,16),{ hd:=[1,2,3,4,5,8],bx:=[],ex:=[1,2,3,4,5],rt:=[2] })],gho:=[],ctx:=[(66,C66),(75,C75),(85,C85),(86,C86),(87,C87),(88,C88)] }
@[simp] theorem g45_s:type_of% (cfg_s (g:=g45) rfl):=cfg_s rfl
theorem w45 {h_} {y} (hp:zbq h_=some y):∃ m,callo g45 0 45 [av .shr h_] mem0=some (Res.res y,m):=by
 refine st0 [.cell 2 32] Tryz.func45 ?_
 unfold zbq at hp
 obtain ⟨y_1,h_2,hp⟩:=zaa hp
 have c_3:=C75_eq h_2
 simp at c_3
 simp [Tryz.f45,c_3]
 rcases zad hp with ⟨h_4,hp⟩|⟨h_4,hp⟩
 ·try simp at h_4
  try simp [h_4]
  rcases zad hp with ⟨h_5,hp⟩|⟨h_5,hp⟩
  ·try simp at h_5
   cases hp
   simp [Goal,FnEnd,retR,rsrc,RSrc.val,nodupR,nodup,tupPart,h_4,h_5]
  ·try simp at h_5
   obtain ⟨y_6,h_7,hp⟩:=zaa hp
   have c_8:=zgn h_7
   simp at c_8
   try simp [h_4,h_5,c_8]
   rcases zad hp with ⟨h_9,hp⟩|⟨h_9,hp⟩
   ·try simp at h_9
    try simp [h_4,h_5,h_9]
    obtain ⟨r_89,h_90,hp⟩:=zaa hp
    obtain ⟨I_12,I_12_⟩:=exV fun (s_10:Int × (List TNode) × (List Int)) (σ:St)=>(σ.env 1=uP (1,1)∧σ.env 2=uP (1,2)∧σ.env 3=uI (h_.next.length:Int)∧σ.env 4=uP (1,4)∧σ.env 5=uI s_10.1∧σ.mem (1,1)=some [cL .shr h_.vars,cL .shr h_.next]∧σ.mem (1,2)=some [.l .own 0 [],.l .own 0 []]∧σ.mem (1,4)=some [cL .own s_10.2.1,cL .own s_10.2.2])∧NoBox [(1,1),(1,2),(1,4)] σ.mem
    obtain ⟨X_13,X_13_⟩:=exV fun (r_89:(List TNode) × (List Int)) (out:Out)=>∃ σ:St,out=.exit 0 σ∧(σ.env 2=uP (1,2)∧σ.env 4=uP (1,4)∧σ.mem (1,1)=some [cL .shr h_.vars,cL .shr h_.next]∧σ.mem (1,2)=some [.l .own 0 [],.l .own 0 []]∧σ.mem (1,4)=some [cL .own r_89.1,cL .own r_89.2])∧NoBox [(1,1),(1,2),(1,4)] σ.mem
    refine loopP ({ hd:=[1,2,3,4,5],bx:=[6],ex:=[2,4],rt:=[2] }) I_12 X_13 h_90 (by exact rfl) ?_ ?_ ?_
    ·rw [I_12_]
     exact ⟨by simp [zac,zab,h_4,h_5,h_9],NoBox.restrict (by intro k hk hb;simp at hk hb;simp [hk,hb,h_4,h_5,h_9])⟩
    ·intro s_10 σ_14 a_11 hI hp
     rw [I_12_] at hI
     obtain ⟨q_16,hn_15⟩:=hI
     try simp [h_4,h_5,h_9,q_16]
     rcases zad hp with ⟨h_17,hp⟩|⟨h_17,hp⟩
     ·try simp at h_17
      obtain ⟨y_18,h_19,hp⟩:=zaa hp
      have c_20:=C86_eq h_19
      simp at c_20
      obtain ⟨y_21,h_22,hp⟩:=zaa hp
      have c_23:=C85_eq h_22
      simp at c_23
      have n_24:=hn_15 (1,6) (by simp)
      try simp [h_4,h_5,h_9,q_16,h_17,c_20,c_23,n_24]
      obtain ⟨r_59,h_60,hp⟩:=zaa hp
      obtain ⟨I_27,I_27_⟩:=exV fun (s_25:Int × (List Int) × (List Int)) (σ:St)=>(σ.env 1=uP (1,1)∧σ.env 2=uP (1,2)∧σ.env 3=uI (h_.next.length:Int)∧σ.env 4=uP (1,4)∧σ.env 5=uI s_10.1∧σ.env 6=uP (1,6)∧σ.env 7=uI s_25.1∧σ.mem (1,1)=some [cL .shr h_.vars,cL .shr h_.next]∧σ.mem (1,2)=some [.l .own 0 [],.l .own 0 []]∧σ.mem (1,4)=some [cL .own s_10.2.1,cL .own s_10.2.2]∧σ.mem (1,6)=some [cL .own s_25.2.1,cL .own s_25.2.2,cI y_21,cI 0])∧NoBox [(1,1),(1,2),(1,4),(1,6)] σ.mem
      obtain ⟨X_28,X_28_⟩:=exV fun (r_59:(List Int) × (List Int)) (out:Out)=>∃ σ:St,out=.exit 2 σ∧(σ.env 1=uP (1,1)∧σ.env 2=uP (1,2)∧σ.env 3=uI (h_.next.length:Int)∧σ.env 4=uP (1,4)∧σ.env 5=uI s_10.1∧σ.env 6=uP (1,6)∧σ.mem (1,1)=some [cL .shr h_.vars,cL .shr h_.next]∧σ.mem (1,2)=some [.l .own 0 [],.l .own 0 []]∧σ.mem (1,4)=some [cL .own s_10.2.1,cL .own s_10.2.2]∧σ.mem (1,6)=some [cL .own r_59.1,cL .own r_59.2,cI y_21,cI 0])∧NoBox [(1,1),(1,2),(1,4),(1,6)] σ.mem
      refine loopP ({ hd:=[1,2,3,4,5,6,7],bx:=[],ex:=[1,2,3,4,5,6],rt:=[2] }) I_27 X_28 h_60 (by exact rfl) ?_ ?_ ?_
      ·rw [I_27_]
       exact ⟨by simp [zac,zab,h_4,h_5,h_9,q_16,h_17],NoBox.restrict (by intro k hk hb;simp at hk hb;simp [hk,hb,h_4,h_5,h_9,q_16,h_17,hn_15 k (by simp [hk,hb])])⟩
      ·intro s_25 σ_29 a_26 hI hp
       rw [I_27_] at hI
       obtain ⟨q_31,hn_30⟩:=hI
       try simp [h_4,h_5,h_9,h_17,q_31]
       rcases zad hp with ⟨h_32,hp⟩|⟨h_32,hp⟩
       ·try simp at h_32
        obtain ⟨e_33,h_34,hp⟩:=zaa hp
        have b_35:=at_lo h_34
        have b_36:=at_hi h_34
        try simp at b_35 b_36
        have c_37:=seg_at' h_34 0 1 (by decide) (ds:=[.sc (.int .i64 e_33)]) rfl
        try simp at c_37
        obtain ⟨y_38,h_39,hp⟩:=zaa hp
        have c_40:=C85_eq h_39
        simp at c_40
        obtain ⟨_,h_41,hp⟩:=zaa hp
        have b_42:=zbc h_41
        try simp at b_42
        obtain ⟨e_43,h_44,hp⟩:=zaa hp
        cases Option.some.inj (h_34.symm.trans h_44)
        have b_45:=at_lo h_34
        have b_46:=at_hi h_34
        try simp at b_45 b_46
        have c_47:=seg_at' h_34 0 1 (by decide) (ds:=[.sc (.int .i64 e_33)]) rfl
        try simp at c_47
        obtain ⟨y_48,h_49,hp⟩:=zaa hp
        have c_50:=C88_eq h_49
        simp at c_50
        obtain ⟨y_51,h_52,hp⟩:=zaa hp
        have c_53:=C87_eq h_52
        simp at c_53
        obtain ⟨y_54,h_55,hp⟩:=zaa hp
        have c_56:=C85_eq h_55
        simp at c_56
        obtain ⟨_,h_57,hp⟩:=zaa hp
        have b_58:=zbc h_57
        try simp at b_58
        cases hp
        try simp [h_4,h_5,h_9,h_17,q_31,h_32,b_35,b_36,c_37,c_40,b_42,b_45,b_46,c_47,c_50,c_53,c_56,b_58]
        refine zaf ?_
        rw [I_27_]
        exact ⟨by simp [zac,zab,h_4,h_5,h_9,h_17,q_31,h_32,b_35,b_36,c_37,c_40,b_42,b_45,b_46,c_47,c_50,c_53,c_56,b_58],NoBox.restrict (by intro k hk hb;simp at hk hb;simp [hk,hb,h_4,h_5,h_9,h_17,q_31,h_32,b_35,b_36,c_37,c_40,b_42,b_45,b_46,c_47,c_50,c_53,c_56,b_58,hn_30 k (by simp [hk,hb])])⟩
       ·try simp at h_32
        cases hp
        try simp [h_4,h_5,h_9,h_17,q_31,h_32]
        refine zai ?_
        rw [X_28_]
        exact ⟨_,rfl,by simp [zac,zab,h_4,h_5,h_9,h_17,q_31,h_32],NoBox.restrict (by intro k hk hb;simp at hk hb;simp [hk,hb,h_4,h_5,h_9,h_17,q_31,h_32,hn_30 k (by simp [hk,hb])])⟩
      ·intro out hX
       rw [X_28_] at hX
       obtain ⟨σ_61,rfl,q_63,hn_62⟩:=hX
       obtain ⟨_,h_64,hp⟩:=zaa hp
       have b_65:=zbc h_64
       try simp at b_65
       try simp [h_4,h_5,h_9,h_17,q_63,b_65]
       obtain ⟨r_84,h_85,hp⟩:=zaa hp
       obtain ⟨I_68,I_68_⟩:=exV fun (s_66:Int × (List Int)) (σ:St)=>(σ.env 1=uP (1,1)∧σ.env 2=uP (1,2)∧σ.env 3=uI (h_.next.length:Int)∧σ.env 4=uP (1,4)∧σ.env 5=uI s_10.1∧σ.env 8=uI s_66.1∧σ.mem (1,1)=some [cL .shr h_.vars,cL .shr h_.next]∧σ.mem (1,2)=some [.l .own 0 [],.l .own 0 []]∧σ.mem (1,4)=some [cL .own (s_10.2.1 ++ [(⟨r_59.1,r_59.2,y_21,0⟩:TNode)]),cL .own s_66.2]∧σ.mem (1,6)=some [.dead,.dead,.dead,.dead])∧NoBox [(1,1),(1,2),(1,4),(1,6)] σ.mem
       obtain ⟨X_69,X_69_⟩:=exV fun (r_84:(List Int)) (out:Out)=>∃ σ:St,out=.exit 4 σ∧(σ.env 1=uP (1,1)∧σ.env 2=uP (1,2)∧σ.env 3=uI (h_.next.length:Int)∧σ.env 4=uP (1,4)∧σ.env 5=uI s_10.1∧σ.mem (1,1)=some [cL .shr h_.vars,cL .shr h_.next]∧σ.mem (1,2)=some [.l .own 0 [],.l .own 0 []]∧σ.mem (1,4)=some [cL .own (s_10.2.1 ++ [(⟨r_59.1,r_59.2,y_21,0⟩:TNode)]),cL .own r_84]∧σ.mem (1,6)=some [.dead,.dead,.dead,.dead])∧NoBox [(1,1),(1,2),(1,4),(1,6)] σ.mem
       refine loopP ({ hd:=[1,2,3,4,5,8],bx:=[],ex:=[1,2,3,4,5],rt:=[2] }) I_68 X_69 h_85 (by exact rfl) ?_ ?_ ?_
       ·rw [I_68_]
        exact ⟨by simp [zac,zab,h_4,h_5,h_9,h_17,q_63],NoBox.restrict (by intro k hk hb;simp at hk hb;simp [hk,hb,h_4,h_5,h_9,h_17,q_63,hn_62 k (by simp [hk,hb])])⟩
       ·intro s_66 σ_70 a_67 hI hp
        rw [I_68_] at hI
        obtain ⟨q_72,hn_71⟩:=hI
        try simp [h_4,h_5,h_9,h_17,q_72]
        rcases zad hp with ⟨h_73,hp⟩|⟨h_73,hp⟩
        ·try simp at h_73
         obtain ⟨e_74,h_75,hp⟩:=zaa hp
         have b_76:=at_lo h_75
         have b_77:=at_hi h_75
         try simp at b_76 b_77
         have c_78:=seg_at' h_75 0 1 (by decide) (ds:=[.sc (.int .i64 e_74)]) rfl
         try simp at c_78
         obtain ⟨y_79,h_80,hp⟩:=zaa hp
         have c_81:=C85_eq h_80
         simp at c_81
         obtain ⟨_,h_82,hp⟩:=zaa hp
         have b_83:=zbc h_82
         try simp at b_83
         cases hp
         try simp [h_4,h_5,h_9,h_17,q_72,h_73,b_76,b_77,c_78,c_81,b_83]
         refine zaf ?_
         rw [I_68_]
         exact ⟨by simp [zac,zab,h_4,h_5,h_9,h_17,q_72,h_73,b_76,b_77,c_78,c_81,b_83],NoBox.restrict (by intro k hk hb;simp at hk hb;simp [hk,hb,h_4,h_5,h_9,h_17,q_72,h_73,b_76,b_77,c_78,c_81,b_83,hn_71 k (by simp [hk,hb])])⟩
        ·try simp at h_73
         cases hp
         try simp [h_4,h_5,h_9,h_17,q_72,h_73]
         refine zai ?_
         rw [X_69_]
         exact ⟨_,rfl,by simp [zac,zab,h_4,h_5,h_9,h_17,q_72,h_73],NoBox.restrict (by intro k hk hb;simp at hk hb;simp [hk,hb,h_4,h_5,h_9,h_17,q_72,h_73,hn_71 k (by simp [hk,hb])])⟩
       ·intro out hX
        rw [X_69_] at hX
        obtain ⟨σ_86,rfl,q_88,hn_87⟩:=hX
        cases hp
        try simp [h_4,h_5,h_9,h_17,q_88]
        refine zaf ?_
        rw [I_12_]
        exact ⟨by simp [zac,zab,h_4,h_5,h_9,h_17,q_88],NoBox.restrict (by intro k hk hb;simp at hk hb;simp [hk,hb,h_4,h_5,h_9,h_17,q_88,hn_87 k (by simp [hk,hb])])⟩
     ·try simp at h_17
      cases hp
      try simp [h_4,h_5,h_9,q_16,h_17]
      refine zai ?_
      rw [X_13_]
      exact ⟨_,rfl,by simp [zac,zab,h_4,h_5,h_9,q_16,h_17],NoBox.restrict (by intro k hk hb;simp at hk hb;simp [hk,hb,h_4,h_5,h_9,q_16,h_17,hn_15 k (by simp [hk,hb])])⟩
    ·intro out hX
     rw [X_13_] at hX
     obtain ⟨σ_91,rfl,q_93,hn_92⟩:=hX
     cases hp
     simp [Goal,FnEnd,retR,rsrc,RSrc.val,nodupR,nodup,tupPart,h_4,h_5,h_9,q_93]
   ·try simp at h_9
    cases hp
    simp [Goal,FnEnd,retR,rsrc,RSrc.val,nodupR,nodup,tupPart,h_4,h_5,h_9]
 ·try simp at h_4
  cases hp
  simp [Goal,FnEnd,retR,rsrc,RSrc.val,nodupR,nodup,tupPart,h_4]
theorem pc45:PC Tryz.prog 45 C45:=pc_of (g:=g45) (zag _ g45_s.2.1 ⟨pc66,pc75,pc85,pc86,pc87,pc88,trivial⟩) (ent Tryz.func45) fun x y h=>w45 h

def C57:List AV→Option AV:=specP (X:=TStructure × Unit) fun x=>zdj x.1
theorem C57_eq {s} {y} (h:zdj s=some y):C57 [av .shr s]=some (Res.res y):=zah (x:=(s,())) h
def g57:Cfg:={ P:=Tryz.prog,take:=[],keep:=[],gho:=[],ctx:=[] }
@[simp] theorem g57_s:type_of% (cfg_s (g:=g57) rfl):=cfg_s rfl
theorem w57 {s} {y} (hp:zdj s=some y):∃ m,callo g57 0 57 [av .shr s] mem0=some (Res.res y,m):=by
 refine st0 [.tmp 2] Tryz.func57 ?_
 unfold zdj at hp
 simp [Tryz.f57]
 rcases zad hp with ⟨h_1,hp⟩|⟨h_1,hp⟩
 ·try simp at h_1
  cases hp
  simp [Goal,FnEnd,h_1]
 ·try simp at h_1
  obtain ⟨e_2,h_3,hp⟩:=zaa hp
  have b_5:=at_hi h_3
  try simp at b_5
  have c_6:=seg_at' h_3 0 1 (by decide) (ds:=[.sl e_2.vars.length (encL e_2.vars)]) rfl
  try simp at c_6
  cases hp
  simp [Goal,FnEnd,h_1,b_5,c_6]
theorem pc57:PC Tryz.prog 57 C57:=pc_of (g:=g57) (zag [] rfl trivial) (ent Tryz.func57) fun x y h=>w57 h

def C73:List AV→Option AV:=specP (X:=Int × Unit) fun x=>zaz x.1
theorem zph {a_} {y} (h:zaz a_=some y):C73 [av .shr a_]=some (Res.res y):=zah (x:=(a_,())) h
def g73:Cfg:={ P:=Tryz.prog,take:=[],keep:=[],gho:=[],ctx:=[(66,C66)] }
@[simp] theorem g73_s:type_of% (cfg_s (g:=g73) rfl):=cfg_s rfl
theorem w73 {a_} {y} (hp:zaz a_=some y):∃ m,callo g73 0 73 [av .shr a_] mem0=some (Res.res y,m):=by
 refine st0 [.tmp 2] Tryz.func73 ?_
 unfold zaz at hp
 obtain ⟨y_1,h_2,hp⟩:=zaa hp
 have c_3:=zgn h_2
 simp at c_3
 cases hp
 simp [Tryz.f73,Goal,FnEnd,c_3]
theorem pc73:PC Tryz.prog 73 C73:=pc_of (g:=g73) (zag _ g73_s.2.1 ⟨pc66,trivial⟩) (ent Tryz.func73) fun x y h=>w73 h

def C72:List AV→Option AV:=specP (X:=(List Int) × Unit) fun x=>zcs x.1
theorem C72_eq {list} {y} (h:zcs list=some y):C72 [av .shr list]=some (Res.res y):=zah (x:=(list,())) h
def g72:Cfg:={ P:=Tryz.prog,take:=[],keep:=[((72,2),{ hd:=[0,3],bx:=[],ex:=[],rt:=[2] })],gho:=[],ctx:=[(73,C73)] }
@[simp] theorem g72_s:type_of% (cfg_s (g:=g72) rfl):=cfg_s rfl
theorem w72 {list} {y} (hp:zcs list=some y):∃ m,callo g72 0 72 [av .shr list] mem0=some (Res.res y,m):=by
 refine st0 [.tmp 2] Tryz.func72 ?_
 unfold zcs at hp
 simp [Tryz.f72]
 obtain ⟨r_18,h_19,hp⟩:=zaa hp
 obtain ⟨I_3,I_3_⟩:=exV fun (s_1:Int) (σ:St)=>(σ.env 0=uL .shr list∧σ.env 3=uI s_1)∧σ.mem=mem0
 obtain ⟨X_4,X_4_⟩:=exV fun (r_18:(Unit) ⊕ (Unit)) (out:Out)=>Sum.elim (fun r_18=>∃ σ:St,out=.ret σ∧σ.env 2=uB false∧σ.mem=mem0) (fun r_18=>∃ σ:St,out=.exit 0 σ∧σ.mem=mem0) r_18
 refine loopP ({ hd:=[0,3],bx:=[],ex:=[],rt:=[2] }) I_3 X_4 h_19 (by exact rfl) ?_ ?_ ?_
 ·rw [I_3_]
  exact ⟨by simp [zac,zab],by simp [zab]⟩
 ·intro s_1 σ_5 a_2 hI hp
  rw [I_3_] at hI
  obtain ⟨q_7,q_6⟩:=hI
  try simp [q_7,q_6]
  rcases zad hp with ⟨h_8,hp⟩|⟨h_8,hp⟩
  ·try simp at h_8
   obtain ⟨e_9,h_10,hp⟩:=zaa hp
   have b_11:=at_lo h_10
   have b_12:=at_hi h_10
   try simp at b_11 b_12
   have c_13:=seg_at' h_10 0 1 (by decide) (ds:=[.sc (.int .i64 e_9)]) rfl
   try simp at c_13
   obtain ⟨y_14,h_15,hp⟩:=zaa hp
   have c_16:=zph h_15
   simp at c_16
   try simp [q_7,q_6,h_8,b_11,b_12,c_13,c_16]
   rcases zad hp with ⟨h_17,hp⟩|⟨h_17,hp⟩
   ·try simp at h_17
    cases hp
    try simp [q_7,q_6,h_8,h_17]
    refine zaf ?_
    rw [I_3_]
    exact ⟨by simp [zac,zab,q_7,q_6,h_8,h_17],by simp [zab,q_7,q_6,h_8,h_17]⟩
   ·try simp at h_17
    cases hp
    try simp [q_7,q_6,h_8,h_17]
    refine zaq ?_
    rw [X_4_]
    exact ⟨_,rfl,by simp [zac,zab,q_7,q_6,h_8,h_17],by simp [zab,q_7,q_6,h_8,h_17]⟩
  ·try simp at h_8
   cases hp
   try simp [q_7,q_6,h_8]
   refine zai ?_
   rw [X_4_]
   exact ⟨_,rfl,by simp [zab,q_7,q_6,h_8]⟩
 ·intro out hX
  rw [X_4_] at hX
  rcases r_18 with r_18 | r_18
  ·simp only [Sum.elim_inl,Sum.elim_inr] at hX hp
   obtain ⟨σ_20,rfl,q_22,q_21⟩:=hX
   cases hp
   simp [Goal,FnEnd,q_22,q_21]
  ·simp only [Sum.elim_inl,Sum.elim_inr] at hX hp
   obtain ⟨σ_23,rfl,q_24⟩:=hX
   cases hp
   simp [Goal,FnEnd,q_24]
theorem pc72:PC Tryz.prog 72 C72:=pc_of (g:=g72) (zag _ g72_s.2.1 ⟨pc73,trivial⟩) (ent Tryz.func72) fun x y h=>w72 h

def C32:List AV→Option AV:=specP (X:=Int × TStructure × Unit) fun x=>zck x.1 x.2.1
theorem C32_eq {vars s} {y} (h:zck vars s=some y):C32 [av .shr vars,av .shr s]=some (Res.res y):=zah (x:=(vars,s,())) h
def g32:Cfg:={ P:=Tryz.prog,take:=[],keep:=[((32,3),{ hd:=[0,3,5,6],bx:=[7],ex:=[0,3,5],rt:=[4] })],gho:=[],ctx:=[(66,C66),(72,C72),(73,C73)] }
@[simp] theorem g32_s:type_of% (cfg_s (g:=g32) rfl):=cfg_s rfl
theorem w32 {vars s} {y} (hp:zck vars s=some y):∃ m,callo g32 0 32 [av .shr vars,av .shr s] mem0=some (Res.res y,m):=by
 refine st0 [.tmp 4] Tryz.func32 ?_
 unfold zck at hp
 simp [Tryz.f32]
 obtain ⟨r_33,h_34,hp⟩:=zaa hp
 obtain ⟨I_3,I_3_⟩:=exV fun (s_1:Int) (σ:St)=>(σ.env 0=uI vars∧σ.env 3=uP (1,3)∧σ.env 5=uI (s.nodes.length:Int)∧σ.env 6=uI s_1∧σ.mem (1,3)=some [cL .shr s.nodes,cL .shr s.next])∧NoBox [(1,3)] σ.mem
 obtain ⟨X_4,X_4_⟩:=exV fun (r_33:(Unit) ⊕ (Unit)) (out:Out)=>Sum.elim (fun r_33=>∃ σ:St,out=.ret σ∧(σ.env 4=uB false∧σ.mem (1,3)=some [cL .shr s.nodes,cL .shr s.next])∧NoBox [(1,3)] σ.mem) (fun r_33=>∃ σ:St,out=.exit 0 σ∧(σ.env 0=uI vars∧σ.env 3=uP (1,3)∧σ.env 5=uI (s.nodes.length:Int)∧σ.mem (1,3)=some [cL .shr s.nodes,cL .shr s.next])∧NoBox [(1,3)] σ.mem) r_33
 refine loopP ({ hd:=[0,3,5,6],bx:=[7],ex:=[0,3,5],rt:=[4] }) I_3 X_4 h_34 (by exact rfl) ?_ ?_ ?_
 ·rw [I_3_]
  exact ⟨by simp [zac,zab],NoBox.restrict (by intro k hk hb;simp at hk hb;simp [hk,hb])⟩
 ·intro s_1 σ_5 a_2 hI hp
  rw [I_3_] at hI
  obtain ⟨q_7,hn_6⟩:=hI
  try simp [q_7]
  rcases zad hp with ⟨h_8,hp⟩|⟨h_8,hp⟩
  ·try simp at h_8
   obtain ⟨e_9,h_10,hp⟩:=zaa hp
   have b_11:=at_lo h_10
   have b_12:=at_hi h_10
   try simp at b_11 b_12
   have c_13:=seg_at' h_10 0 4 (by decide) (ds:=[.sl e_9.vars.length (encL e_9.vars),.sl e_9.reach.length (encL e_9.reach),.sc (.int .i64 e_9.shared),.sc (.int .i64 e_9.many)]) rfl
   try simp at c_13
   have n_14:=hn_6 (1,7) (by simp)
   try simp [q_7,h_8,b_11,b_12,c_13,n_14]
   rcases zad hp with ⟨h_15,hp⟩|⟨h_15,hp⟩
   ·try simp at h_15
    cases hp
    try simp [q_7,h_8,h_15]
    refine zaq ?_
    rw [X_4_]
    exact ⟨_,rfl,by simp [zac,zab,q_7,h_8,h_15],NoBox.restrict (by intro k hk hb;simp at hk hb;simp [hk,hb,q_7,h_8,h_15,hn_6 k (by simp [hk,hb])])⟩
   ·try simp at h_15
    try simp [q_7,h_8,h_15]
    rcases zad hp with ⟨h_16,hp⟩|⟨h_16,hp⟩
    ·try simp at h_16
     cases hp
     try simp [q_7,h_8,h_15,h_16]
     refine zaq ?_
     rw [X_4_]
     exact ⟨_,rfl,by simp [zac,zab,q_7,h_8,h_15,h_16],NoBox.restrict (by intro k hk hb;simp at hk hb;simp [hk,hb,q_7,h_8,h_15,h_16,hn_6 k (by simp [hk,hb])])⟩
    ·try simp at h_16
     obtain ⟨y_17,h_18,hp⟩:=zaa hp
     have c_19:=C72_eq h_18
     simp at c_19
     try simp [q_7,h_8,h_15,h_16,c_19]
     rcases zad hp with ⟨h_20,hp⟩|⟨h_20,hp⟩
     ·try simp at h_20
      obtain ⟨y_21,h_22,hp⟩:=zaa hp
      have c_23:=C72_eq h_22
      simp at c_23
      try simp [q_7,h_8,h_15,h_16,h_20,c_23]
      rcases zad hp with ⟨h_24,hp⟩|⟨h_24,hp⟩
      ·try simp at h_24
       obtain ⟨y_25,h_26,hp⟩:=zaa hp
       have c_27:=zph h_26
       simp at c_27
       try simp [q_7,h_8,h_15,h_16,h_20,h_24,c_27]
       rcases zad hp with ⟨h_28,hp⟩|⟨h_28,hp⟩
       ·try simp at h_28
        obtain ⟨y_29,h_30,hp⟩:=zaa hp
        have c_31:=zgn h_30
        simp at c_31
        try simp [q_7,h_8,h_15,h_16,h_20,h_24,h_28,c_31]
        rcases zad hp with ⟨h_32,hp⟩|⟨h_32,hp⟩
        ·try simp at h_32
         cases hp
         try simp [q_7,h_8,h_15,h_16,h_20,h_24,h_28,h_32]
         refine zaf ?_
         rw [I_3_]
         exact ⟨by simp [zac,zab,q_7,h_8,h_15,h_16,h_20,h_24,h_28,h_32],NoBox.restrict (by intro k hk hb;simp at hk hb;simp [hk,hb,q_7,h_8,h_15,h_16,h_20,h_24,h_28,h_32,hn_6 k (by simp [hk,hb])])⟩
        ·try simp at h_32
         cases hp
         try simp [q_7,h_8,h_15,h_16,h_20,h_24,h_28,h_32]
         refine zaq ?_
         rw [X_4_]
         exact ⟨_,rfl,by simp [zac,zab,q_7,h_8,h_15,h_16,h_20,h_24,h_28,h_32],NoBox.restrict (by intro k hk hb;simp at hk hb;simp [hk,hb,q_7,h_8,h_15,h_16,h_20,h_24,h_28,h_32,hn_6 k (by simp [hk,hb])])⟩
       ·try simp at h_28
        cases hp
        try simp [q_7,h_8,h_15,h_16,h_20,h_24,h_28]
        refine zaq ?_
        rw [X_4_]
        exact ⟨_,rfl,by simp [zac,zab,q_7,h_8,h_15,h_16,h_20,h_24,h_28],NoBox.restrict (by intro k hk hb;simp at hk hb;simp [hk,hb,q_7,h_8,h_15,h_16,h_20,h_24,h_28,hn_6 k (by simp [hk,hb])])⟩
      ·try simp at h_24
       cases hp
       try simp [q_7,h_8,h_15,h_16,h_20,h_24]
       refine zaq ?_
       rw [X_4_]
       exact ⟨_,rfl,by simp [zac,zab,q_7,h_8,h_15,h_16,h_20,h_24],NoBox.restrict (by intro k hk hb;simp at hk hb;simp [hk,hb,q_7,h_8,h_15,h_16,h_20,h_24,hn_6 k (by simp [hk,hb])])⟩
     ·try simp at h_20
      cases hp
      try simp [q_7,h_8,h_15,h_16,h_20]
      refine zaq ?_
      rw [X_4_]
      exact ⟨_,rfl,by simp [zac,zab,q_7,h_8,h_15,h_16,h_20],NoBox.restrict (by intro k hk hb;simp at hk hb;simp [hk,hb,q_7,h_8,h_15,h_16,h_20,hn_6 k (by simp [hk,hb])])⟩
  ·try simp at h_8
   cases hp
   try simp [q_7,h_8]
   refine zai ?_
   rw [X_4_]
   exact ⟨_,rfl,by simp [zac,zab,q_7,h_8],NoBox.restrict (by intro k hk hb;simp at hk hb;simp [hk,hb,q_7,h_8,hn_6 k (by simp [hk,hb])])⟩
 ·intro out hX
  rw [X_4_] at hX
  rcases r_33 with r_33 | r_33
  ·simp only [Sum.elim_inl,Sum.elim_inr] at hX hp
   obtain ⟨σ_35,rfl,q_37,hn_36⟩:=hX
   cases hp
   simp [Goal,FnEnd,q_37]
  ·simp only [Sum.elim_inl,Sum.elim_inr] at hX hp
   obtain ⟨σ_38,rfl,q_40,hn_39⟩:=hX
   obtain ⟨y_41,h_42,hp⟩:=zaa hp
   have c_43:=zgn h_42
   simp at c_43
   try simp [q_40,c_43]
   rcases zad hp with ⟨h_44,hp⟩|⟨h_44,hp⟩
   ·try simp at h_44
    try simp [q_40,h_44]
    rcases zad hp with ⟨h_45,hp⟩|⟨h_45,hp⟩
    ·try simp at h_45
     try simp [q_40,h_44,h_45]
     rcases zad hp with ⟨h_46,hp⟩|⟨h_46,hp⟩
     ·try simp at h_46
      obtain ⟨y_47,h_48,hp⟩:=zaa hp
      have c_49:=C72_eq h_48
      simp at c_49
      cases hp
      simp [Goal,FnEnd,q_40,h_44,h_45,h_46,c_49]
     ·try simp at h_46
      cases hp
      simp [Goal,FnEnd,q_40,h_44,h_45,h_46]
    ·try simp at h_45
     cases hp
     simp [Goal,FnEnd,q_40,h_44,h_45]
   ·try simp at h_44
    cases hp
    simp [Goal,FnEnd,q_40,h_44]
theorem pc32:PC Tryz.prog 32 C32:=pc_of (g:=g32) (zag _ g32_s.2.1 ⟨pc66,pc72,pc73,trivial⟩) (ent Tryz.func32) fun x y h=>w32 h

def C102:List AV→Option AV:=specP (X:=TNode × Unit) fun x=>zcj x.1
theorem C102_eq {x_} {y} (h:zcj x_=some y):C102 [av .shr x_]=some (Res.res y):=zah (x:=(x_,())) h
def g102:Cfg:={ P:=Tryz.prog,take:=[],keep:=[],gho:=[],ctx:=[] }
@[simp] theorem g102_s:type_of% (cfg_s (g:=g102) rfl):=cfg_s rfl
theorem w102 {x_} {y} (hp:zcj x_=some y):∃ m,callo g102 0 102 [av .shr x_] mem0=some (Res.res y,m):=by
 refine st0 [.cell 2 75] Tryz.func102 ?_
 unfold zcj at hp
 obtain ⟨_,h_1,hp⟩:=zaa hp
 have b_2:=zbc h_1
 try simp at b_2
 obtain ⟨_,h_3,hp⟩:=zaa hp
 have b_4:=zbc h_3
 try simp at b_4
 cases hp
 simp [Tryz.f102,Goal,FnEnd,retR,rsrc,RSrc.val,nodupR,nodup,tupPart,b_2,b_4]
theorem pc102:PC Tryz.prog 102 C102:=pc_of (g:=g102) (zag [] rfl trivial) (ent Tryz.func102) fun x y h=>w102 h

def C58:List AV→Option AV:=specP (X:=TStructure × Unit) fun x=>zfd x.1
theorem C58_eq {s} {y} (h:zfd s=some y):C58 [av .shr s]=some (Res.res y):=zah (x:=(s,())) h
def g58:Cfg:={ P:=Tryz.prog,take:=[(58,18),(58,28)],keep:=[((58,3),{ hd:=[1,2,3,4],bx:=[],ex:=[2,3],rt:=[2] })],gho:=[],ctx:=[(102,C102)] }
@[simp] theorem g58_s:type_of% (cfg_s (g:=g58) rfl):=cfg_s rfl
theorem w58 {s} {y} (hp:zfd s=some y):∃ m,callo g58 0 58 [av .shr s] mem0=some (Res.res y,m):=by
 refine st0 [.cell 2 32] Tryz.func58 ?_
 unfold zfd at hp
 obtain ⟨_,h_1,hp⟩:=zaa hp
 have b_2:=zbc h_1
 try simp at b_2
 simp [Tryz.f58,b_2]
 obtain ⟨r_21,h_22,hp⟩:=zaa hp
 obtain ⟨I_5,I_5_⟩:=exV fun (s_3:Int × (List TNode)) (σ:St)=>(σ.env 1=uP (1,1)∧σ.env 2=uP (1,2)∧σ.env 3=uP (1,3)∧σ.env 4=uI s_3.1∧σ.mem (1,1)=some [cL .shr s.nodes,cL .shr s.next]∧σ.mem (1,2)=some [.l .own 0 [],.l .own 0 []]∧σ.mem (1,3)=some [cL .own s_3.2,cL .own s.next])∧NoBox [(1,1),(1,2),(1,3)] σ.mem
 obtain ⟨X_6,X_6_⟩:=exV fun (r_21:(List TNode)) (out:Out)=>∃ σ:St,out=.exit 0 σ∧(σ.env 2=uP (1,2)∧σ.env 3=uP (1,3)∧σ.mem (1,1)=some [cL .shr s.nodes,cL .shr s.next]∧σ.mem (1,2)=some [.l .own 0 [],.l .own 0 []]∧σ.mem (1,3)=some [cL .own r_21,cL .own s.next])∧NoBox [(1,1),(1,2),(1,3)] σ.mem
 refine loopP ({ hd:=[1,2,3,4],bx:=[],ex:=[2,3],rt:=[2] }) I_5 X_6 h_22 (by exact rfl) ?_ ?_ ?_
 ·rw [I_5_]
  exact ⟨by simp [zac,zab],NoBox.restrict (by intro k hk hb;simp at hk hb;simp [hk,hb])⟩
 ·intro s_3 σ_7 a_4 hI hp
  rw [I_5_] at hI
  obtain ⟨q_9,hn_8⟩:=hI
  try simp [q_9]
  rcases zad hp with ⟨h_10,hp⟩|⟨h_10,hp⟩
  ·try simp at h_10
   obtain ⟨e_11,h_12,hp⟩:=zaa hp
   have b_13:=at_lo h_12
   have b_14:=at_hi h_12
   try simp at b_13 b_14
   have c_15:=seg_at' h_12 0 4 (by decide) (ds:=[.sl e_11.vars.length (encL e_11.vars),.sl e_11.reach.length (encL e_11.reach),.sc (.int .i64 e_11.shared),.sc (.int .i64 e_11.many)]) rfl
   try simp at c_15
   obtain ⟨y_16,h_17,hp⟩:=zaa hp
   have c_18:=C102_eq h_17
   simp at c_18
   obtain ⟨_,h_19,hp⟩:=zaa hp
   have b_20:=zbc h_19
   try simp at b_20
   cases hp
   try simp [q_9,h_10,b_13,b_14,c_15,c_18,b_20]
   refine zaf ?_
   rw [I_5_]
   exact ⟨by simp [zac,zab,q_9,h_10,b_13,b_14,c_15,c_18,b_20],NoBox.restrict (by intro k hk hb;simp at hk hb;simp [hk,hb,q_9,h_10,b_13,b_14,c_15,c_18,b_20,hn_8 k (by simp [hk,hb])])⟩
  ·try simp at h_10
   cases hp
   try simp [q_9,h_10]
   refine zai ?_
   rw [X_6_]
   exact ⟨_,rfl,by simp [zac,zab,q_9,h_10],NoBox.restrict (by intro k hk hb;simp at hk hb;simp [hk,hb,q_9,h_10,hn_8 k (by simp [hk,hb])])⟩
 ·intro out hX
  rw [X_6_] at hX
  obtain ⟨σ_23,rfl,q_25,hn_24⟩:=hX
  cases hp
  simp [Goal,FnEnd,retR,rsrc,RSrc.val,nodupR,nodup,tupPart,q_25]
theorem pc58:PC Tryz.prog 58 C58:=pc_of (g:=g58) (zag _ g58_s.2.1 ⟨pc102,trivial⟩) (ent Tryz.func58) fun x y h=>w58 h
end Go.Proofs

