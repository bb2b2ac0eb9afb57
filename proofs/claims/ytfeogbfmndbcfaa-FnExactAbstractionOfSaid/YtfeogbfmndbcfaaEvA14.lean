import Derived.Test.YtfeogbfmndbcfaaEvA13
set_option linter.unusedSimpArgs false
set_option linter.unusedVariables false
set_option linter.unnecessarySimpa false
noncomputable section
set_option maxHeartbeats 4000000
set_option maxRecDepth 100000
namespace Go.Proofs
open Go.Ev
def C79:List AV→Option AV:=specP (X:=THeap × Unit) fun x=>spec_l7Cells x.1
theorem C79_eq {h_} {y} (h:spec_l7Cells h_=some y):C79 [av .shr h_]=some (Res.res y):=zaf (x:=(h_,())) h
def g79:Cfg:={ P:=Try.prog,take:=[],keep:=[((79,2),{ hd:=[1,3],bx:=[],ex:=[1],rt:=[2] }),((79,7),{ hd:=[1,4],bx:=[],ex:=[],rt:=[2] })],gho:=[],ctx:=[(59,C59)] }
@[simp] theorem g79_s:type_of% (cfg_s (g:=g79) rfl):=cfg_s rfl
theorem w79 {h_} {y} (hp:spec_l7Cells h_=some y):∃ m,callo g79 0 79 [av .shr h_] mem0=some (Res.res y,m):=by
 refine st0 [.tmp 2] Try.func79 ?_
 unfold spec_l7Cells at hp
 simp [Try.f79]
 obtain ⟨r_18,h_19,hp⟩:=zaa hp
 obtain ⟨I_3,I_3_⟩:=exV fun (s_1:Int) (σ:St)=>(σ.env 1=uP (1,1)∧σ.env 3=uI s_1∧σ.mem (1,1)=some [cL .shr h_.vars,cL .shr h_.next])∧NoBox [(1,1)] σ.mem
 obtain ⟨X_4,X_4_⟩:=exV fun (r_18:(Unit) ⊕ (Unit)) (out:Out)=>Sum.elim (fun r_18=>∃ σ:St,out=.ret σ∧(σ.env 2=uB false∧σ.mem (1,1)=some [cL .shr h_.vars,cL .shr h_.next])∧NoBox [(1,1)] σ.mem) (fun r_18=>∃ σ:St,out=.exit 0 σ∧(σ.env 1=uP (1,1)∧σ.mem (1,1)=some [cL .shr h_.vars,cL .shr h_.next])∧NoBox [(1,1)] σ.mem) r_18
 refine loopP ({ hd:=[1,3],bx:=[],ex:=[1],rt:=[2] }) I_3 X_4 h_19 (by exact rfl) ?_ ?_ ?_
 ·rw [I_3_]
  exact ⟨by simp [zad,zab],NoBox.restrict (by intro k hk hb;simp at hk hb;simp [hk,hb])⟩
 ·intro s_1 σ_5 a_2 hI hp
  rw [I_3_] at hI
  obtain ⟨q_7,hn_6⟩:=hI
  try simp [q_7]
  rcases zae hp with ⟨h_8,hp⟩|⟨h_8,hp⟩
  ·try simp at h_8
   obtain ⟨e_9,h_10,hp⟩:=zaa hp
   have b_11:=at_lo h_10
   have b_12:=at_hi h_10
   try simp at b_11 b_12
   have c_13:=seg_at' h_10 0 1 (by decide) (ds:=[.sc (.int .i64 e_9)]) rfl
   try simp at c_13
   obtain ⟨y_14,h_15,hp⟩:=zaa hp
   have c_16:=C59_eq h_15
   simp at c_16
   try simp [q_7,h_8,b_11,b_12,c_13,c_16]
   rcases zae hp with ⟨h_17,hp⟩|⟨h_17,hp⟩
   ·try simp at h_17
    cases hp
    try simp [q_7,h_8,h_17]
    refine zaj ?_
    rw [I_3_]
    exact ⟨by simp [zad,zab,q_7,h_8,h_17],NoBox.restrict (by intro k hk hb;simp at hk hb;simp [hk,hb,q_7,h_8,h_17,hn_6 k (by simp [hk,hb])])⟩
   ·try simp at h_17
    cases hp
    try simp [q_7,h_8,h_17]
    refine goal_outR ?_
    rw [X_4_]
    exact ⟨_,rfl,by simp [zad,zab,q_7,h_8,h_17],NoBox.restrict (by intro k hk hb;simp at hk hb;simp [hk,hb,q_7,h_8,h_17,hn_6 k (by simp [hk,hb])])⟩
  ·try simp at h_8
   cases hp
   try simp [q_7,h_8]
   refine goal_outX ?_
   rw [X_4_]
   exact ⟨_,rfl,by simp [zad,zab,q_7,h_8],NoBox.restrict (by intro k hk hb;simp at hk hb;simp [hk,hb,q_7,h_8,hn_6 k (by simp [hk,hb])])⟩
 ·intro out hX
  rw [X_4_] at hX
  rcases r_18 with r_18 | r_18
  ·simp only [Sum.elim_inl,Sum.elim_inr] at hX hp
   obtain ⟨σ_20,rfl,q_22,hn_21⟩:=hX
   cases hp
   simp [Goal,FnEnd,q_22]
  ·simp only [Sum.elim_inl,Sum.elim_inr] at hX hp
   obtain ⟨σ_23,rfl,q_25,hn_24⟩:=hX
   try simp [q_25]
   obtain ⟨r_43,h_44,hp⟩:=zaa hp
   obtain ⟨I_28,I_28_⟩:=exV fun (s_26:Int) (σ:St)=>(σ.env 1=uP (1,1)∧σ.env 4=uI s_26∧σ.mem (1,1)=some [cL .shr h_.vars,cL .shr h_.next])∧NoBox [(1,1)] σ.mem
   obtain ⟨X_29,X_29_⟩:=exV fun (r_43:(Bool) ⊕ (Unit)) (out:Out)=>Sum.elim (fun r_43=>∃ σ:St,out=.ret σ∧(σ.env 2=uB r_43∧σ.mem (1,1)=some [cL .shr h_.vars,cL .shr h_.next])∧NoBox [(1,1)] σ.mem) (fun r_43=>∃ σ:St,out=.exit 2 σ∧σ.mem (1,1)=some [cL .shr h_.vars,cL .shr h_.next]∧NoBox [(1,1)] σ.mem) r_43
   refine loopP ({ hd:=[1,4],bx:=[],ex:=[],rt:=[2] }) I_28 X_29 h_44 (by exact rfl) ?_ ?_ ?_
   ·rw [I_28_]
    exact ⟨by simp [zad,zab,q_25],NoBox.restrict (by intro k hk hb;simp at hk hb;simp [hk,hb,q_25,hn_24 k (by simp [hk,hb])])⟩
   ·intro s_26 σ_30 a_27 hI hp
    rw [I_28_] at hI
    obtain ⟨q_32,hn_31⟩:=hI
    try simp [q_32]
    rcases zae hp with ⟨h_33,hp⟩|⟨h_33,hp⟩
    ·try simp at h_33
     obtain ⟨e_34,h_35,hp⟩:=zaa hp
     have b_36:=at_lo h_35
     have b_37:=at_hi h_35
     try simp at b_36 b_37
     have c_38:=seg_at' h_35 0 1 (by decide) (ds:=[.sc (.int .i64 e_34)]) rfl
     try simp at c_38
     obtain ⟨y_39,h_40,hp⟩:=zaa hp
     have c_41:=C59_eq h_40
     simp at c_41
     try simp [q_32,h_33,b_36,b_37,c_38,c_41]
     rcases zae hp with ⟨h_42,hp⟩|⟨h_42,hp⟩
     ·try simp at h_42
      cases hp
      try simp [q_32,h_33,h_42]
      refine zaj ?_
      rw [I_28_]
      exact ⟨by simp [zad,zab,q_32,h_33,h_42],NoBox.restrict (by intro k hk hb;simp at hk hb;simp [hk,hb,q_32,h_33,h_42,hn_31 k (by simp [hk,hb])])⟩
     ·try simp at h_42
      cases hp
      try simp [q_32,h_33,h_42]
      refine goal_outR ?_
      rw [X_29_]
      exact ⟨_,rfl,by simp [zad,zab,q_32,h_33,h_42],NoBox.restrict (by intro k hk hb;simp at hk hb;simp [hk,hb,q_32,h_33,h_42,hn_31 k (by simp [hk,hb])])⟩
    ·try simp at h_33
     cases hp
     try simp [q_32,h_33]
     refine goal_outX ?_
     rw [X_29_]
     exact ⟨_,rfl,by simp [zad,zab,q_32,h_33],NoBox.restrict (by intro k hk hb;simp at hk hb;simp [hk,hb,q_32,h_33,hn_31 k (by simp [hk,hb])])⟩
   ·intro out hX
    rw [X_29_] at hX
    rcases r_43 with r_43 | r_43
    ·simp only [Sum.elim_inl,Sum.elim_inr] at hX hp
     obtain ⟨σ_45,rfl,q_47,hn_46⟩:=hX
     cases hp
     simp [Goal,FnEnd,q_47]
    ·simp only [Sum.elim_inl,Sum.elim_inr] at hX hp
     obtain ⟨σ_48,rfl,q_50,hn_49⟩:=hX
     cases hp
     simp [Goal,FnEnd,q_50]
theorem pc79:PC Try.prog 79 C79:=pc_of (g:=g79) (zag _ g79_s.2.1 ⟨pc59,trivial⟩) (ent Try.func79) fun x y h=>w79 h

def C81:List AV→Option AV:=specP (X:=(List Int) × Int × Unit) fun x=>spec_Positions x.1 x.2.1
theorem C81_eq {list n_} {y} (h:spec_Positions list n_=some y):C81 [av .shr list,av .shr n_]=some (Res.res y):=zaf (x:=(list,n_,())) h
def g81:Cfg:={ P:=Try.prog,take:=[(81,20),(81,24)],keep:=[((81,3),{ hd:=[0,1,5,6],bx:=[],ex:=[5],rt:=[4] })],gho:=[],ctx:=[] }
@[simp] theorem g81_s:type_of% (cfg_s (g:=g81) rfl):=cfg_s rfl
theorem w81 {list n_} {y} (hp:spec_Positions list n_=some y):∃ m,callo g81 0 81 [av .shr list,av .shr n_] mem0=some (Res.res y,m):=by
 refine st0 [.tmp 4] Try.func81 ?_
 unfold spec_Positions at hp
 simp [Try.f81]
 obtain ⟨r_17,h_18,hp⟩:=zaa hp
 obtain ⟨I_3,I_3_⟩:=exV fun (s_1:(List Int) × Int) (σ:St)=>(σ.env 0=uL .shr list∧σ.env 1=uI n_∧σ.env 5=uL .own s_1.1∧σ.env 6=uI s_1.2)∧σ.mem=mem0
 obtain ⟨X_4,X_4_⟩:=exV fun (r_17:(List Int)) (out:Out)=>∃ σ:St,out=.exit 0 σ∧σ.env 5=uL .own r_17∧σ.mem=mem0
 refine loopP ({ hd:=[0,1,5,6],bx:=[],ex:=[5],rt:=[4] }) I_3 X_4 h_18 (by exact rfl) ?_ ?_ ?_
 ·rw [I_3_]
  exact ⟨by simp [zad,zab],by simp [zab]⟩
 ·intro s_1 σ_5 a_2 hI hp
  rw [I_3_] at hI
  obtain ⟨q_7,q_6⟩:=hI
  try simp [q_7,q_6]
  rcases zae hp with ⟨h_8,hp⟩|⟨h_8,hp⟩
  ·try simp at h_8
   obtain ⟨e_9,h_10,hp⟩:=zaa hp
   have b_11:=at_lo h_10
   have b_12:=at_hi h_10
   try simp at b_11 b_12
   have c_13:=seg_at' h_10 0 1 (by decide) (ds:=[.sc (.int .i64 e_9)]) rfl
   try simp at c_13
   try simp [q_7,q_6,h_8,b_11,b_12,c_13]
   rcases zae hp with ⟨h_14,hp⟩|⟨h_14,hp⟩
   ·try simp at h_14
    obtain ⟨_,h_15,hp⟩:=zaa hp
    have b_16:=room_ok h_15
    try simp at b_16
    cases hp
    try simp [q_7,q_6,h_8,h_14,b_16]
    refine zaj ?_
    rw [I_3_]
    exact ⟨by simp [zad,zab,q_7,q_6,h_8,h_14,b_16],by simp [zab,q_7,q_6,h_8,h_14,b_16]⟩
   ·try simp at h_14
    cases hp
    try simp [q_7,q_6,h_8,h_14]
    refine zaj ?_
    rw [I_3_]
    exact ⟨by simp [zad,zab,q_7,q_6,h_8,h_14],by simp [zab,q_7,q_6,h_8,h_14]⟩
  ·try simp at h_8
   cases hp
   try simp [q_7,q_6,h_8]
   refine goal_outX ?_
   rw [X_4_]
   exact ⟨_,rfl,by simp [zad,zab,q_7,q_6,h_8],by simp [zab,q_7,q_6,h_8]⟩
 ·intro out hX
  rw [X_4_] at hX
  obtain ⟨σ_19,rfl,q_21,q_20⟩:=hX
  cases hp
  simp [Goal,FnEnd,q_21,q_20]
theorem pc81:PC Try.prog 81 C81:=pc_of (g:=g81) (zag [] rfl trivial) (ent Try.func81) fun x y h=>w81 h

def C80:List AV→Option AV:=specP (X:=Bool × Unit) fun x=>spec_l3Of x.1
theorem C80_eq {on} {y} (h:spec_l3Of on=some y):C80 [av .shr on]=some (Res.res y):=zaf (x:=(on,())) h
def g80:Cfg:={ P:=Try.prog,take:=[],keep:=[],gho:=[],ctx:=[] }
@[simp] theorem g80_s:type_of% (cfg_s (g:=g80) rfl):=cfg_s rfl
theorem w80 {on} {y} (hp:spec_l3Of on=some y):∃ m,callo g80 0 80 [av .shr on] mem0=some (Res.res y,m):=by
 refine st0 [.tmp 2] Try.func80 ?_
 unfold spec_l3Of at hp
 simp [Try.f80]
 rcases zae hp with ⟨h_1,hp⟩|⟨h_1,hp⟩
 ·try simp at h_1
  cases hp
  simp [Goal,FnEnd,h_1]
 ·try simp at h_1
  cases hp
  simp [Goal,FnEnd,h_1]
theorem pc80:PC Try.prog 80 C80:=pc_of (g:=g80) (zag [] rfl trivial) (ent Try.func80) fun x y h=>w80 h

def C82:List AV→Option AV:=specP (X:=(List Int) × Int × Unit) fun x=>spec_l7Has x.1 x.2.1
theorem C82_eq {list n_} {y} (h:spec_l7Has list n_=some y):C82 [av .shr list,av .shr n_]=some (Res.res y):=zaf (x:=(list,n_,())) h
def g82:Cfg:={ P:=Try.prog,take:=[],keep:=[],gho:=[],ctx:=[(81,C81)] }
@[simp] theorem g82_s:type_of% (cfg_s (g:=g82) rfl):=cfg_s rfl
theorem w82 {list n_} {y} (hp:spec_l7Has list n_=some y):∃ m,callo g82 0 82 [av .shr list,av .shr n_] mem0=some (Res.res y,m):=by
 refine st0 [.tmp 4] Try.func82 ?_
 unfold spec_l7Has at hp
 obtain ⟨y_1,h_2,hp⟩:=zaa hp
 have c_3:=C81_eq h_2
 simp at c_3
 cases hp
 simp [Try.f82,Goal,FnEnd,c_3]
theorem pc82:PC Try.prog 82 C82:=pc_of (g:=g82) (zag _ g82_s.2.1 ⟨pc81,trivial⟩) (ent Try.func82) fun x y h=>w82 h

def C83:List AV→Option AV:=specP (X:=THeap × Int × Unit) fun x=>spec_Followed x.1 x.2.1
theorem C83_eq {h_ cell} {y} (h:spec_Followed h_ cell=some y):C83 [av .shr h_,av .shr cell]=some (Res.res y):=zaf (x:=(h_,cell,())) h
def g83:Cfg:={ P:=Try.prog,take:=[(83,23),(83,32)],keep:=[((83,2),{ hd:=[1,2,5],bx:=[],ex:=[5],rt:=[4] })],gho:=[],ctx:=[(59,C59),(82,C82)] }
@[simp] theorem g83_s:type_of% (cfg_s (g:=g83) rfl):=cfg_s rfl
theorem w83 {h_ cell} {y} (hp:spec_Followed h_ cell=some y):∃ m,callo g83 0 83 [av .shr h_,av .shr cell] mem0=some (Res.res y,m):=by
 refine st0 [.tmp 4] Try.func83 ?_
 unfold spec_Followed at hp
 simp [Try.f83]
 obtain ⟨r_24,h_25,hp⟩:=zaa hp
 obtain ⟨I_3,I_3_⟩:=exV fun (s_1:Int × (List Int)) (σ:St)=>(σ.env 1=uI s_1.1∧σ.env 2=uP (1,2)∧σ.env 5=uL .own s_1.2∧σ.mem (1,2)=some [cL .shr h_.vars,cL .shr h_.next])∧NoBox [(1,2)] σ.mem
 obtain ⟨X_4,X_4_⟩:=exV fun (r_24:((List Int)) ⊕ (Unit)) (out:Out)=>Sum.elim (fun r_24=>∃ σ:St,out=.exit 0 σ∧(σ.env 5=uL .own r_24∧σ.mem (1,2)=some [cL .shr h_.vars,cL .shr h_.next])∧NoBox [(1,2)] σ.mem) (fun r_24=>∃ σ:St,out=.ret σ∧(σ.env 4=.one (.l .own 0 [])∧σ.mem (1,2)=some [cL .shr h_.vars,cL .shr h_.next])∧NoBox [(1,2)] σ.mem) r_24
 refine loopP ({ hd:=[1,2,5],bx:=[],ex:=[5],rt:=[4] }) I_3 X_4 h_25 (by exact rfl) ?_ ?_ ?_
 ·rw [I_3_]
  exact ⟨by simp [zad,zab],NoBox.restrict (by intro k hk hb;simp at hk hb;simp [hk,hb])⟩
 ·intro s_1 σ_5 a_2 hI hp
  rw [I_3_] at hI
  obtain ⟨q_7,hn_6⟩:=hI
  try simp [q_7]
  rcases zae hp with ⟨h_8,hp⟩|⟨h_8,hp⟩
  ·try simp at h_8
   obtain ⟨y_9,h_10,hp⟩:=zaa hp
   have c_11:=C82_eq h_10
   simp at c_11
   try simp [q_7,h_8,c_11]
   rcases zae hp with ⟨h_12,hp⟩|⟨h_12,hp⟩
   ·try simp at h_12
    cases hp
    try simp [q_7,h_8,h_12]
    refine goal_outX ?_
    rw [X_4_]
    exact ⟨_,rfl,by simp [zad,zab,q_7,h_8,h_12],NoBox.restrict (by intro k hk hb;simp at hk hb;simp [hk,hb,q_7,h_8,h_12,hn_6 k (by simp [hk,hb])])⟩
   ·try simp at h_12
    obtain ⟨y_13,h_14,hp⟩:=zaa hp
    have c_15:=C59_eq h_14
    simp at c_15
    try simp [q_7,h_8,h_12,c_15]
    rcases zae hp with ⟨h_16,hp⟩|⟨h_16,hp⟩
    ·try simp at h_16
     obtain ⟨_,h_17,hp⟩:=zaa hp
     have b_18:=room_ok h_17
     try simp at b_18
     obtain ⟨e_19,h_20,hp⟩:=zaa hp
     have b_21:=at_lo h_20
     have b_22:=at_hi h_20
     try simp at b_21 b_22
     have c_23:=seg_at' h_20 0 1 (by decide) (ds:=[.sc (.int .i64 e_19)]) rfl
     try simp at c_23
     cases hp
     try simp [q_7,h_8,h_12,h_16,b_18,b_21,b_22,c_23]
     refine zaj ?_
     rw [I_3_]
     exact ⟨by simp [zad,zab,q_7,h_8,h_12,h_16,b_18,b_21,b_22,c_23],NoBox.restrict (by intro k hk hb;simp at hk hb;simp [hk,hb,q_7,h_8,h_12,h_16,b_18,b_21,b_22,c_23,hn_6 k (by simp [hk,hb])])⟩
    ·try simp at h_16
     cases hp
     try simp [q_7,h_8,h_12,h_16]
     refine goal_outR ?_
     rw [X_4_]
     exact ⟨_,rfl,by simp [zad,zab,q_7,h_8,h_12,h_16],NoBox.restrict (by intro k hk hb;simp at hk hb;simp [hk,hb,q_7,h_8,h_12,h_16,hn_6 k (by simp [hk,hb])])⟩
  ·try simp at h_8
   cases hp
   try simp [q_7,h_8]
   refine goal_outX ?_
   rw [X_4_]
   exact ⟨_,rfl,by simp [zad,zab,q_7,h_8],NoBox.restrict (by intro k hk hb;simp at hk hb;simp [hk,hb,q_7,h_8,hn_6 k (by simp [hk,hb])])⟩
 ·intro out hX
  rw [X_4_] at hX
  rcases r_24 with r_24 | r_24
  ·simp only [Sum.elim_inl,Sum.elim_inr] at hX hp
   obtain ⟨σ_26,rfl,q_28,hn_27⟩:=hX
   cases hp
   simp [Goal,FnEnd,q_28]
  ·simp only [Sum.elim_inl,Sum.elim_inr] at hX hp
   obtain ⟨σ_29,rfl,q_31,hn_30⟩:=hX
   cases hp
   simp [Goal,FnEnd,q_31]
theorem pc83:PC Try.prog 83 C83:=pc_of (g:=g83) (zag _ g83_s.2.1 ⟨pc59,pc82,trivial⟩) (ent Try.func83) fun x y h=>w83 h

def C47:List AV→Option AV:=specP (X:=THeap × Unit) fun x=>spec_StructureOf x.1
theorem C47_eq {h_} {y} (h:spec_StructureOf h_=some y):C47 [av .shr h_]=some (Res.res y):=zaf (x:=(h_,())) h
def g47:Cfg:={ P:=Try.prog,take:=[(47,49),(47,62),(47,77),(47,78),(47,88),(47,100)],keep:=[((47,6),{ hd:=[1,2,3,4,5],bx:=[6],ex:=[2,4],rt:=[2] }),((47,10),{ hd:=[1,2,3,4,5,6,7],bx:=[],ex:=[1,2,3,4,5,6],rt:=[2] }),((47,16),{ hd:=[1,2,3,4,5,8],bx:=[],ex:=[1,2,3,4,5],rt:=[2] })],gho:=[],ctx:=[(59,C59),(79,C79),(80,C80),(81,C81),(82,C82),(83,C83)] }
@[simp] theorem g47_s:type_of% (cfg_s (g:=g47) rfl):=cfg_s rfl
theorem w47 {h_} {y} (hp:spec_StructureOf h_=some y):∃ m,callo g47 0 47 [av .shr h_] mem0=some (Res.res y,m):=by
 refine st0 [.cell 2 30] Try.func47 ?_
 unfold spec_StructureOf at hp
 obtain ⟨y_1,h_2,hp⟩:=zaa hp
 have c_3:=C79_eq h_2
 simp at c_3
 simp [Try.f47,c_3]
 rcases zae hp with ⟨h_4,hp⟩|⟨h_4,hp⟩
 ·try simp at h_4
  try simp [h_4]
  rcases zae hp with ⟨h_5,hp⟩|⟨h_5,hp⟩
  ·try simp at h_5
   cases hp
   simp [Goal,FnEnd,retR,rsrc,RSrc.val,nodupR,nodup,tupPart,h_4,h_5]
  ·try simp at h_5
   obtain ⟨y_6,h_7,hp⟩:=zaa hp
   have c_8:=C59_eq h_7
   simp at c_8
   try simp [h_4,h_5,c_8]
   rcases zae hp with ⟨h_9,hp⟩|⟨h_9,hp⟩
   ·try simp at h_9
    try simp [h_4,h_5,h_9]
    obtain ⟨r_89,h_90,hp⟩:=zaa hp
    obtain ⟨I_12,I_12_⟩:=exV fun (s_10:Int × (List TNode) × (List Int)) (σ:St)=>(σ.env 1=uP (1,1)∧σ.env 2=uP (1,2)∧σ.env 3=uI (h_.next.length:Int)∧σ.env 4=uP (1,4)∧σ.env 5=uI s_10.1∧σ.mem (1,1)=some [cL .shr h_.vars,cL .shr h_.next]∧σ.mem (1,2)=some [.l .own 0 [],.l .own 0 []]∧σ.mem (1,4)=some [cL .own s_10.2.1,cL .own s_10.2.2])∧NoBox [(1,1),(1,2),(1,4)] σ.mem
    obtain ⟨X_13,X_13_⟩:=exV fun (r_89:(List TNode) × (List Int)) (out:Out)=>∃ σ:St,out=.exit 0 σ∧(σ.env 2=uP (1,2)∧σ.env 4=uP (1,4)∧σ.mem (1,1)=some [cL .shr h_.vars,cL .shr h_.next]∧σ.mem (1,2)=some [.l .own 0 [],.l .own 0 []]∧σ.mem (1,4)=some [cL .own r_89.1,cL .own r_89.2])∧NoBox [(1,1),(1,2),(1,4)] σ.mem
    refine loopP ({ hd:=[1,2,3,4,5],bx:=[6],ex:=[2,4],rt:=[2] }) I_12 X_13 h_90 (by exact rfl) ?_ ?_ ?_
    ·rw [I_12_]
     exact ⟨by simp [zad,zab,h_4,h_5,h_9],NoBox.restrict (by intro k hk hb;simp at hk hb;simp [hk,hb,h_4,h_5,h_9])⟩
    ·intro s_10 σ_14 a_11 hI hp
     rw [I_12_] at hI
     obtain ⟨q_16,hn_15⟩:=hI
     try simp [h_4,h_5,h_9,q_16]
     rcases zae hp with ⟨h_17,hp⟩|⟨h_17,hp⟩
     ·try simp at h_17
      obtain ⟨y_18,h_19,hp⟩:=zaa hp
      have c_20:=C81_eq h_19
      simp at c_20
      obtain ⟨y_21,h_22,hp⟩:=zaa hp
      have c_23:=C80_eq h_22
      simp at c_23
      have n_24:=hn_15 (1,6) (by simp)
      try simp [h_4,h_5,h_9,q_16,h_17,c_20,c_23,n_24]
      obtain ⟨r_59,h_60,hp⟩:=zaa hp
      obtain ⟨I_27,I_27_⟩:=exV fun (s_25:Int × (List Int) × (List Int)) (σ:St)=>(σ.env 1=uP (1,1)∧σ.env 2=uP (1,2)∧σ.env 3=uI (h_.next.length:Int)∧σ.env 4=uP (1,4)∧σ.env 5=uI s_10.1∧σ.env 6=uP (1,6)∧σ.env 7=uI s_25.1∧σ.mem (1,1)=some [cL .shr h_.vars,cL .shr h_.next]∧σ.mem (1,2)=some [.l .own 0 [],.l .own 0 []]∧σ.mem (1,4)=some [cL .own s_10.2.1,cL .own s_10.2.2]∧σ.mem (1,6)=some [cL .own s_25.2.1,cL .own s_25.2.2,cI y_21,cI 0])∧NoBox [(1,1),(1,2),(1,4),(1,6)] σ.mem
      obtain ⟨X_28,X_28_⟩:=exV fun (r_59:(List Int) × (List Int)) (out:Out)=>∃ σ:St,out=.exit 2 σ∧(σ.env 1=uP (1,1)∧σ.env 2=uP (1,2)∧σ.env 3=uI (h_.next.length:Int)∧σ.env 4=uP (1,4)∧σ.env 5=uI s_10.1∧σ.env 6=uP (1,6)∧σ.mem (1,1)=some [cL .shr h_.vars,cL .shr h_.next]∧σ.mem (1,2)=some [.l .own 0 [],.l .own 0 []]∧σ.mem (1,4)=some [cL .own s_10.2.1,cL .own s_10.2.2]∧σ.mem (1,6)=some [cL .own r_59.1,cL .own r_59.2,cI y_21,cI 0])∧NoBox [(1,1),(1,2),(1,4),(1,6)] σ.mem
      refine loopP ({ hd:=[1,2,3,4,5,6,7],bx:=[],ex:=[1,2,3,4,5,6],rt:=[2] }) I_27 X_28 h_60 (by exact rfl) ?_ ?_ ?_
      ·rw [I_27_]
       exact ⟨by simp [zad,zab,h_4,h_5,h_9,q_16,h_17],NoBox.restrict (by intro k hk hb;simp at hk hb;simp [hk,hb,h_4,h_5,h_9,q_16,h_17,hn_15 k (by simp [hk,hb])])⟩
      ·intro s_25 σ_29 a_26 hI hp
       rw [I_27_] at hI
       obtain ⟨q_31,hn_30⟩:=hI
       try simp [h_4,h_5,h_9,h_17,q_31]
       rcases zae hp with ⟨h_32,hp⟩|⟨h_32,hp⟩
       ·try simp at h_32
        obtain ⟨e_33,h_34,hp⟩:=zaa hp
        have b_35:=at_lo h_34
        have b_36:=at_hi h_34
        try simp at b_35 b_36
        have c_37:=seg_at' h_34 0 1 (by decide) (ds:=[.sc (.int .i64 e_33)]) rfl
        try simp at c_37
        obtain ⟨y_38,h_39,hp⟩:=zaa hp
        have c_40:=C80_eq h_39
        simp at c_40
        obtain ⟨_,h_41,hp⟩:=zaa hp
        have b_42:=room_ok h_41
        try simp at b_42
        obtain ⟨e_43,h_44,hp⟩:=zaa hp
        cases Option.some.inj (h_34.symm.trans h_44)
        have b_45:=at_lo h_34
        have b_46:=at_hi h_34
        try simp at b_45 b_46
        have c_47:=seg_at' h_34 0 1 (by decide) (ds:=[.sc (.int .i64 e_33)]) rfl
        try simp at c_47
        obtain ⟨y_48,h_49,hp⟩:=zaa hp
        have c_50:=C83_eq h_49
        simp at c_50
        obtain ⟨y_51,h_52,hp⟩:=zaa hp
        have c_53:=C82_eq h_52
        simp at c_53
        obtain ⟨y_54,h_55,hp⟩:=zaa hp
        have c_56:=C80_eq h_55
        simp at c_56
        obtain ⟨_,h_57,hp⟩:=zaa hp
        have b_58:=room_ok h_57
        try simp at b_58
        cases hp
        try simp [h_4,h_5,h_9,h_17,q_31,h_32,b_35,b_36,c_37,c_40,b_42,b_45,b_46,c_47,c_50,c_53,c_56,b_58]
        refine zaj ?_
        rw [I_27_]
        exact ⟨by simp [zad,zab,h_4,h_5,h_9,h_17,q_31,h_32,b_35,b_36,c_37,c_40,b_42,b_45,b_46,c_47,c_50,c_53,c_56,b_58],NoBox.restrict (by intro k hk hb;simp at hk hb;simp [hk,hb,h_4,h_5,h_9,h_17,q_31,h_32,b_35,b_36,c_37,c_40,b_42,b_45,b_46,c_47,c_50,c_53,c_56,b_58,hn_30 k (by simp [hk,hb])])⟩
       ·try simp at h_32
        cases hp
        try simp [h_4,h_5,h_9,h_17,q_31,h_32]
        refine goal_outX ?_
        rw [X_28_]
        exact ⟨_,rfl,by simp [zad,zab,h_4,h_5,h_9,h_17,q_31,h_32],NoBox.restrict (by intro k hk hb;simp at hk hb;simp [hk,hb,h_4,h_5,h_9,h_17,q_31,h_32,hn_30 k (by simp [hk,hb])])⟩
      ·intro out hX
       rw [X_28_] at hX
       obtain ⟨σ_61,rfl,q_63,hn_62⟩:=hX
       obtain ⟨_,h_64,hp⟩:=zaa hp
       have b_65:=room_ok h_64
       try simp at b_65
       try simp [h_4,h_5,h_9,h_17,q_63,b_65]
       obtain ⟨r_84,h_85,hp⟩:=zaa hp
       obtain ⟨I_68,I_68_⟩:=exV fun (s_66:Int × (List Int)) (σ:St)=>(σ.env 1=uP (1,1)∧σ.env 2=uP (1,2)∧σ.env 3=uI (h_.next.length:Int)∧σ.env 4=uP (1,4)∧σ.env 5=uI s_10.1∧σ.env 8=uI s_66.1∧σ.mem (1,1)=some [cL .shr h_.vars,cL .shr h_.next]∧σ.mem (1,2)=some [.l .own 0 [],.l .own 0 []]∧σ.mem (1,4)=some [cL .own (s_10.2.1 ++ [(⟨r_59.1,r_59.2,y_21,0⟩:TNode)]),cL .own s_66.2]∧σ.mem (1,6)=some [.dead,.dead,.dead,.dead])∧NoBox [(1,1),(1,2),(1,4),(1,6)] σ.mem
       obtain ⟨X_69,X_69_⟩:=exV fun (r_84:(List Int)) (out:Out)=>∃ σ:St,out=.exit 4 σ∧(σ.env 1=uP (1,1)∧σ.env 2=uP (1,2)∧σ.env 3=uI (h_.next.length:Int)∧σ.env 4=uP (1,4)∧σ.env 5=uI s_10.1∧σ.mem (1,1)=some [cL .shr h_.vars,cL .shr h_.next]∧σ.mem (1,2)=some [.l .own 0 [],.l .own 0 []]∧σ.mem (1,4)=some [cL .own (s_10.2.1 ++ [(⟨r_59.1,r_59.2,y_21,0⟩:TNode)]),cL .own r_84]∧σ.mem (1,6)=some [.dead,.dead,.dead,.dead])∧NoBox [(1,1),(1,2),(1,4),(1,6)] σ.mem
       refine loopP ({ hd:=[1,2,3,4,5,8],bx:=[],ex:=[1,2,3,4,5],rt:=[2] }) I_68 X_69 h_85 (by exact rfl) ?_ ?_ ?_
       ·rw [I_68_]
        exact ⟨by simp [zad,zab,h_4,h_5,h_9,h_17,q_63],NoBox.restrict (by intro k hk hb;simp at hk hb;simp [hk,hb,h_4,h_5,h_9,h_17,q_63,hn_62 k (by simp [hk,hb])])⟩
       ·intro s_66 σ_70 a_67 hI hp
        rw [I_68_] at hI
        obtain ⟨q_72,hn_71⟩:=hI
        try simp [h_4,h_5,h_9,h_17,q_72]
        rcases zae hp with ⟨h_73,hp⟩|⟨h_73,hp⟩
        ·try simp at h_73
         obtain ⟨e_74,h_75,hp⟩:=zaa hp
         have b_76:=at_lo h_75
         have b_77:=at_hi h_75
         try simp at b_76 b_77
         have c_78:=seg_at' h_75 0 1 (by decide) (ds:=[.sc (.int .i64 e_74)]) rfl
         try simp at c_78
         obtain ⟨y_79,h_80,hp⟩:=zaa hp
         have c_81:=C80_eq h_80
         simp at c_81
         obtain ⟨_,h_82,hp⟩:=zaa hp
         have b_83:=room_ok h_82
         try simp at b_83
         cases hp
         try simp [h_4,h_5,h_9,h_17,q_72,h_73,b_76,b_77,c_78,c_81,b_83]
         refine zaj ?_
         rw [I_68_]
         exact ⟨by simp [zad,zab,h_4,h_5,h_9,h_17,q_72,h_73,b_76,b_77,c_78,c_81,b_83],NoBox.restrict (by intro k hk hb;simp at hk hb;simp [hk,hb,h_4,h_5,h_9,h_17,q_72,h_73,b_76,b_77,c_78,c_81,b_83,hn_71 k (by simp [hk,hb])])⟩
        ·try simp at h_73
         cases hp
         try simp [h_4,h_5,h_9,h_17,q_72,h_73]
         refine goal_outX ?_
         rw [X_69_]
         exact ⟨_,rfl,by simp [zad,zab,h_4,h_5,h_9,h_17,q_72,h_73],NoBox.restrict (by intro k hk hb;simp at hk hb;simp [hk,hb,h_4,h_5,h_9,h_17,q_72,h_73,hn_71 k (by simp [hk,hb])])⟩
       ·intro out hX
        rw [X_69_] at hX
        obtain ⟨σ_86,rfl,q_88,hn_87⟩:=hX
        cases hp
        try simp [h_4,h_5,h_9,h_17,q_88]
        refine zaj ?_
        rw [I_12_]
        exact ⟨by simp [zad,zab,h_4,h_5,h_9,h_17,q_88],NoBox.restrict (by intro k hk hb;simp at hk hb;simp [hk,hb,h_4,h_5,h_9,h_17,q_88,hn_87 k (by simp [hk,hb])])⟩
     ·try simp at h_17
      cases hp
      try simp [h_4,h_5,h_9,q_16,h_17]
      refine goal_outX ?_
      rw [X_13_]
      exact ⟨_,rfl,by simp [zad,zab,h_4,h_5,h_9,q_16,h_17],NoBox.restrict (by intro k hk hb;simp at hk hb;simp [hk,hb,h_4,h_5,h_9,q_16,h_17,hn_15 k (by simp [hk,hb])])⟩
    ·intro out hX
     rw [X_13_] at hX
     obtain ⟨σ_91,rfl,q_93,hn_92⟩:=hX
     cases hp
     simp [Goal,FnEnd,retR,rsrc,RSrc.val,nodupR,nodup,tupPart,h_4,h_5,h_9,q_93]
   ·try simp at h_9
    cases hp
    simp [Goal,FnEnd,retR,rsrc,RSrc.val,nodupR,nodup,tupPart,h_4,h_5,h_9]
 ·try simp at h_4
  cases hp
  simp [Goal,FnEnd,retR,rsrc,RSrc.val,nodupR,nodup,tupPart,h_4]
theorem pc47:PC Try.prog 47 C47:=pc_of (g:=g47) (zag _ g47_s.2.1 ⟨pc59,pc79,pc80,pc81,pc82,pc83,trivial⟩) (ent Try.func47) fun x y h=>w47 h

def C16:List AV→Option AV:=specP (X:=THeap × Unit) fun x=>spec_AbstractionOf x.1
theorem C16_eq {h_} {y} (h:spec_AbstractionOf h_=some y):C16 [av .shr h_]=some (Res.res y):=zaf (x:=(h_,())) h
def g16:Cfg:={ P:=Try.prog,take:=[],keep:=[],gho:=[],ctx:=[(11,C11),(47,C47)] }
@[simp] theorem g16_s:type_of% (cfg_s (g:=g16) rfl):=cfg_s rfl
theorem w16 {h_} {y} (hp:spec_AbstractionOf h_=some y):∃ m,callo g16 0 16 [av .shr h_] mem0=some (Res.res y,m):=by
 refine st0 [.cell 2 30] Try.func16 ?_
 unfold spec_AbstractionOf at hp
 obtain ⟨y_1,h_2,hp⟩:=zaa hp
 have c_3:=C47_eq h_2
 simp at c_3
 obtain ⟨y_4,h_5,hp⟩:=zaa hp
 have c_6:=C11_eq h_5
 simp at c_6
 cases hp
 simp [Try.f16,Goal,FnEnd,retR,rsrc,RSrc.val,nodupR,nodup,tupPart,c_3,c_6]
theorem pc16:PC Try.prog 16 C16:=pc_of (g:=g16) (zag _ g16_s.2.1 ⟨pc11,pc47,trivial⟩) (ent Try.func16) fun x y h=>w16 h

def C108:List AV→Option AV:=specP (X:=THeap × Int × Unit) fun x=>impl_Heap_isCell x.1 x.2.1
theorem C108_eq {h_ n_} {y} (h:impl_Heap_isCell h_ n_=some y):C108 [av .shr h_,av .shr n_]=some (Res.res y):=zaf (x:=(h_,n_,())) h
def g108:Cfg:={ P:=Try.prog,take:=[],keep:=[],gho:=[],ctx:=[(64,C64)] }
@[simp] theorem g108_s:type_of% (cfg_s (g:=g108) rfl):=cfg_s rfl
theorem w108 {h_ n_} {y} (hp:impl_Heap_isCell h_ n_=some y):∃ m,callo g108 0 108 [av .shr h_,av .shr n_] mem0=some (Res.res y,m):=by
 refine st0 [.tmp 4] Try.func108 ?_
 unfold impl_Heap_isCell at hp
 obtain ⟨y_1,h_2,hp⟩:=zaa hp
 have c_3:=C64_eq h_2
 simp at c_3
 cases hp
 simp [Try.f108,Goal,FnEnd,c_3]
theorem pc108:PC Try.prog 108 C108:=pc_of (g:=g108) (zag _ g108_s.2.1 ⟨pc64,trivial⟩) (ent Try.func108) fun x y h=>w108 h

abbrev G107 (g:Cfg):Prop:=Has Try.prog g 107 Try.f107 [] [] [(108,C108)] []
theorem wI107 {g:Cfg} (G:G107 g) {d:Nat} {mem:Mem} (hT:Tight d mem) {K_1:Key} {n_:Int} {c0:THeap} {mk_1:Md} (hk_1:K_1.1≤d) (hb_1:mem K_1=some [cL mk_1 c0.vars,cL mk_1 c0.next]) {y} (hp:impl_Heap_areCells_1 n_ c0=some y):callo g d 107 [av .shr n_,.one (.ptr K_1 0)] mem=some (Res.res y,mem):=by
 have gP:=G.P;have gt:=G.tk;have gr:=G.ro;have gg:=G.gh
 have c_108:=G.cs (108,C108) (by simp)
 have hT2:memKill (fun k=>decide (d < k.1)) mem=mem:=hT
 have nk_1:∀ t,(K_1=(d+1,t))=False:=fun t=>by simp;intro h;rw [h] at hk_1;simp at hk_1;omega
 refine start_in (Try.f107.body.getD .skip) [.tmp 3] G Try.func107 (by kernel_rfl) (by simp [Try.ntmps107]) rfl ?_
 unfold impl_Heap_areCells_1 at hp
 simp [Try.f107,gP,gt,gr,gg,hb_1,nk_1]
 rcases zae hp with ⟨h_1,hp⟩|⟨h_1,hp⟩
 ·try simp at h_1
  obtain ⟨y_2,h_3,hp⟩:=zaa hp
  have c_4:=C108_eq h_3
  simp at c_4
  cases hp
  simp [Goal,FnEndI,memKill_hi,gP,gt,gr,gg,c_108,hb_1,nk_1,h_1,c_4,hT2]
 ·try simp at h_1
  cases hp
  simp [Goal,FnEndI,memKill_hi,gP,gt,gr,gg,c_108,hb_1,nk_1,h_1,hT2]

def C84:List AV→Option AV:=specP (X:=THeap × Unit) fun x=>impl_Heap_areCells x.1
theorem C84_eq {h_} {y} (h:impl_Heap_areCells h_=some y):C84 [av .shr h_]=some (Res.res y):=zaf (x:=(h_,())) h
def g84:Cfg:={ P:=Try.prog,take:=[],keep:=[((111,2),{ hd:=[0,1,7,8],bx:=[],ex:=[],rt:=[4] })],gho:=[],ctx:=[(106,C106),(108,C108)] }
@[simp] theorem g84_s:type_of% (cfg_s (g:=g84) rfl):=cfg_s rfl
theorem w84 {h_} {y} (hp:impl_Heap_areCells h_=some y):∃ m,callo g84 0 84 [av .shr h_] mem0=some (Res.res y,m):=by
 have G_92:G92 g84:=⟨rfl,by kernel_rfl,rfl,fun t=>by simp,noAway (fun t=>by simp) (by simp) (fun t=>by simp),by simp [lookN],fun i=>by simp [lookK],by simp [g84,lookK],by simp⟩
 have G_111:G111 g84:=⟨rfl,by kernel_rfl,rfl,fun t=>by simp,noAway (fun t=>by simp) (by simp) (fun t=>by simp),by simp [lookN],fun i=>by simp [lookK],by simp [g84,lookK],by simp⟩
 have G_107:G107 g84:=⟨rfl,by kernel_rfl,rfl,fun t=>by simp,noAway (fun t=>by simp) (by simp) (fun t=>by simp),by simp [lookN],fun i=>by simp [lookK],by simp [g84,lookK],by simp⟩
 refine st0 [.tmp 2] Try.func84 ?_
 unfold impl_Heap_areCells at hp
 obtain ⟨y_1,h_2,hp⟩:=zaa hp
 have c_3:=C106_eq h_2
 simp at c_3
 obtain ⟨y_4,h_5,hp⟩:=zaa hp
 simp [Try.f84,c_3]
 refine goal_call [av .bor y_1,.one (.fn 107 [((1,1),0)])] (Res.res y_4) (by simp) (wI92 G_92 G_111 (by repeat (first | exact tight_mem0 _ | exact hT.up | exact hT | (simp only [true_and];done) | refine Tight.upd ?_ (by simp) (by simp) | refine Tight.killB ?_ | refine tight_frz ?_)) (.inr rfl) (by simp) (clo1 (p:=fun x0=>impl_Heap_areCells_1 x0 h_) fun d2 mem2 m0 x0 r2 hd2 ha2 hT2 hm0 hr2=>wI107 (mk_1:=.shr) G_107 hT2 (show 1≤d2 from hd2) ((ha2 _ (Nat.le_refl _)).trans (by simp [c_3])) hr2) h_5) ?_
 cases hp
 simp [Goal,FnEnd]
theorem pc84:PC Try.prog 84 C84:=pc_of (g:=g84) (zag _ g84_s.2.1 ⟨pc106,pc108,trivial⟩) (ent Try.func84) fun x y h=>w84 h

def C86:List AV→Option AV:=specP (X:=(List Int) × Int × Unit) fun x=>impl_Positions x.1 x.2.1
theorem C86_eq {list n_} {y} (h:impl_Positions list n_=some y):C86 [av .shr list,av .shr n_]=some (Res.res y):=zaf (x:=(list,n_,())) h
def g86:Cfg:={ P:=Try.prog,take:=[(86,19),(86,24)],keep:=[((86,3),{ hd:=[1,5,9,10,11],bx:=[],ex:=[5],rt:=[4] })],gho:=[],ctx:=[] }
@[simp] theorem g86_s:type_of% (cfg_s (g:=g86) rfl):=cfg_s rfl
theorem w86 {list n_} {y} (hp:impl_Positions list n_=some y):∃ m,callo g86 0 86 [av .shr list,av .shr n_] mem0=some (Res.res y,m):=by
 refine st0 [.tmp 4] Try.func86 ?_
 unfold impl_Positions at hp
 simp [Try.f86]
 obtain ⟨r_17,h_18,hp⟩:=zaa hp
 obtain ⟨I_3,I_3_⟩:=exV fun (s_1:(List Int) × Int) (σ:St)=>(σ.env 1=uI n_∧σ.env 5=uL .own s_1.1∧σ.env 9=uL .shr list∧σ.env 10=uI (list.length:Int)∧σ.env 11=uI s_1.2)∧σ.mem=mem0
 obtain ⟨X_4,X_4_⟩:=exV fun (r_17:(List Int)) (out:Out)=>∃ σ:St,out=.exit 0 σ∧σ.env 5=uL .own r_17∧σ.mem=mem0
 refine loopP ({ hd:=[1,5,9,10,11],bx:=[],ex:=[5],rt:=[4] }) I_3 X_4 h_18 (by exact rfl) ?_ ?_ ?_
 ·rw [I_3_]
  exact ⟨by simp [zad,zab],by simp [zab]⟩
 ·intro s_1 σ_5 a_2 hI hp
  rw [I_3_] at hI
  obtain ⟨q_7,q_6⟩:=hI
  try simp [q_7,q_6]
  rcases zae hp with ⟨h_8,hp⟩|⟨h_8,hp⟩
  ·try simp at h_8
   obtain ⟨e_9,h_10,hp⟩:=zaa hp
   have b_11:=at_lo h_10
   have b_12:=at_hi h_10
   try simp at b_11 b_12
   have c_13:=seg_at' h_10 0 1 (by decide) (ds:=[.sc (.int .i64 e_9)]) rfl
   try simp at c_13
   try simp [q_7,q_6,h_8,b_11,b_12,c_13]
   rcases zae hp with ⟨h_14,hp⟩|⟨h_14,hp⟩
   ·try simp at h_14
    obtain ⟨_,h_15,hp⟩:=zaa hp
    have b_16:=room_ok h_15
    try simp at b_16
    cases hp
    try simp [q_7,q_6,h_8,h_14,b_16]
    refine zaj ?_
    rw [I_3_]
    exact ⟨by simp [zad,zab,q_7,q_6,h_8,h_14,b_16],by simp [zab,q_7,q_6,h_8,h_14,b_16]⟩
   ·try simp at h_14
    cases hp
    try simp [q_7,q_6,h_8,h_14]
    refine zaj ?_
    rw [I_3_]
    exact ⟨by simp [zad,zab,q_7,q_6,h_8,h_14],by simp [zab,q_7,q_6,h_8,h_14]⟩
  ·try simp at h_8
   cases hp
   try simp [q_7,q_6,h_8]
   refine goal_outX ?_
   rw [X_4_]
   exact ⟨_,rfl,by simp [zad,zab,q_7,q_6,h_8],by simp [zab,q_7,q_6,h_8]⟩
 ·intro out hX
  rw [X_4_] at hX
  obtain ⟨σ_19,rfl,q_21,q_20⟩:=hX
  cases hp
  simp [Goal,FnEnd,q_21,q_20]
theorem pc86:PC Try.prog 86 C86:=pc_of (g:=g86) (zag [] rfl trivial) (ent Try.func86) fun x y h=>w86 h

def C85:List AV→Option AV:=specP (X:=Bool × Unit) fun x=>impl_truthOf x.1
theorem C85_eq {b_} {y} (h:impl_truthOf b_=some y):C85 [av .shr b_]=some (Res.res y):=zaf (x:=(b_,())) h
def g85:Cfg:={ P:=Try.prog,take:=[],keep:=[],gho:=[],ctx:=[] }
@[simp] theorem g85_s:type_of% (cfg_s (g:=g85) rfl):=cfg_s rfl
theorem w85 {b_} {y} (hp:impl_truthOf b_=some y):∃ m,callo g85 0 85 [av .shr b_] mem0=some (Res.res y,m):=by
 refine st0 [.tmp 2] Try.func85 ?_
 unfold impl_truthOf at hp
 simp [Try.f85]
 rcases zae hp with ⟨h_1,hp⟩|⟨h_1,hp⟩
 ·try simp at h_1
  cases hp
  simp [Goal,FnEnd,h_1]
 ·try simp at h_1
  cases hp
  simp [Goal,FnEnd,h_1]
theorem pc85:PC Try.prog 85 C85:=pc_of (g:=g85) (zag [] rfl trivial) (ent Try.func85) fun x y h=>w85 h

def C109:List AV→Option AV:=specP (X:=(List Int) × Int × Unit) fun x=>slices_Index_int x.1 x.2.1
theorem C109_eq {s v} {y} (h:slices_Index_int s v=some y):C109 [av .shr s,av .shr v]=some (Res.res y):=zaf (x:=(s,v,())) h
def g109:Cfg:={ P:=Try.prog,take:=[],keep:=[((109,2),{ hd:=[0,1,7,8],bx:=[],ex:=[],rt:=[4] })],gho:=[],ctx:=[] }
@[simp] theorem g109_s:type_of% (cfg_s (g:=g109) rfl):=cfg_s rfl
theorem w109 {s v} {y} (hp:slices_Index_int s v=some y):∃ m,callo g109 0 109 [av .shr s,av .shr v] mem0=some (Res.res y,m):=by
 refine st0 [.tmp 4] Try.func109 ?_
 unfold slices_Index_int at hp
 simp [Try.f109]
 obtain ⟨r_15,h_16,hp⟩:=zaa hp
 obtain ⟨I_3,I_3_⟩:=exV fun (s_1:Int) (σ:St)=>(σ.env 0=uL .shr s∧σ.env 1=uI v∧σ.env 7=uI (s.length:Int)∧σ.env 8=uI s_1)∧σ.mem=mem0
 obtain ⟨X_4,X_4_⟩:=exV fun (r_15:(Int) ⊕ (Unit)) (out:Out)=>Sum.elim (fun r_15=>∃ σ:St,out=.ret σ∧σ.env 4=uI r_15∧σ.mem=mem0) (fun r_15=>∃ σ:St,out=.exit 0 σ∧σ.mem=mem0) r_15
 refine loopP ({ hd:=[0,1,7,8],bx:=[],ex:=[],rt:=[4] }) I_3 X_4 h_16 (by exact rfl) ?_ ?_ ?_
 ·rw [I_3_]
  exact ⟨by simp [zad,zab],by simp [zab]⟩
 ·intro s_1 σ_5 a_2 hI hp
  rw [I_3_] at hI
  obtain ⟨q_7,q_6⟩:=hI
  try simp [q_7,q_6]
  rcases zae hp with ⟨h_8,hp⟩|⟨h_8,hp⟩
  ·try simp at h_8
   obtain ⟨e_9,h_10,hp⟩:=zaa hp
   have b_11:=at_lo h_10
   have b_12:=at_hi h_10
   try simp at b_11 b_12
   have c_13:=seg_at' h_10 0 1 (by decide) (ds:=[.sc (.int .i64 e_9)]) rfl
   try simp at c_13
   try simp [q_7,q_6,h_8,b_11,b_12,c_13]
   rcases zae hp with ⟨h_14,hp⟩|⟨h_14,hp⟩
   ·try simp at h_14
    cases hp
    try simp [q_7,q_6,h_8,h_14]
    refine goal_outR ?_
    rw [X_4_]
    exact ⟨_,rfl,by simp [zad,zab,q_7,q_6,h_8,h_14],by simp [zab,q_7,q_6,h_8,h_14]⟩
   ·try simp at h_14
    cases hp
    try simp [q_7,q_6,h_8,h_14]
    refine zaj ?_
    rw [I_3_]
    exact ⟨by simp [zad,zab,q_7,q_6,h_8,h_14],by simp [zab,q_7,q_6,h_8,h_14]⟩
  ·try simp at h_8
   cases hp
   try simp [q_7,q_6,h_8]
   refine goal_outX ?_
   rw [X_4_]
   exact ⟨_,rfl,by simp [zab,q_7,q_6,h_8]⟩
 ·intro out hX
  rw [X_4_] at hX
  rcases r_15 with r_15 | r_15
  ·simp only [Sum.elim_inl,Sum.elim_inr] at hX hp
   obtain ⟨σ_17,rfl,q_19,q_18⟩:=hX
   cases hp
   simp [Goal,FnEnd,q_19,q_18]
  ·simp only [Sum.elim_inl,Sum.elim_inr] at hX hp
   obtain ⟨σ_20,rfl,q_21⟩:=hX
   cases hp
   simp [Goal,FnEnd,q_21]
theorem pc109:PC Try.prog 109 C109:=pc_of (g:=g109) (zag [] rfl trivial) (ent Try.func109) fun x y h=>w109 h

def C87:List AV→Option AV:=specP (X:=(List Int) × Int × Unit) fun x=>slices_Contains_int x.1 x.2.1
theorem C87_eq {s v} {y} (h:slices_Contains_int s v=some y):C87 [av .shr s,av .shr v]=some (Res.res y):=zaf (x:=(s,v,())) h
def g87:Cfg:={ P:=Try.prog,take:=[],keep:=[],gho:=[],ctx:=[(109,C109)] }
@[simp] theorem g87_s:type_of% (cfg_s (g:=g87) rfl):=cfg_s rfl
theorem w87 {s v} {y} (hp:slices_Contains_int s v=some y):∃ m,callo g87 0 87 [av .shr s,av .shr v] mem0=some (Res.res y,m):=by
 refine st0 [.tmp 4] Try.func87 ?_
 unfold slices_Contains_int at hp
 obtain ⟨y_1,h_2,hp⟩:=zaa hp
 have c_3:=C109_eq h_2
 simp at c_3
 cases hp
 simp [Try.f87,Goal,FnEnd,c_3]
theorem pc87:PC Try.prog 87 C87:=pc_of (g:=g87) (zag _ g87_s.2.1 ⟨pc109,trivial⟩) (ent Try.func87) fun x y h=>w87 h

def C88:List AV→Option AV:=specP (X:=THeap × Int × Unit) fun x=>impl_Followed x.1 x.2.1
theorem C88_eq {h_ cell} {y} (h:impl_Followed h_ cell=some y):C88 [av .shr h_,av .shr cell]=some (Res.res y):=zaf (x:=(h_,cell,())) h
def g88:Cfg:={ P:=Try.prog,take:=[(88,27),(88,31)],keep:=[((88,3),{ hd:=[1,2,5,6],bx:=[],ex:=[5],rt:=[4] })],gho:=[],ctx:=[(87,C87),(108,C108)] }
@[simp] theorem g88_s:type_of% (cfg_s (g:=g88) rfl):=cfg_s rfl
theorem w88 {h_ cell} {y} (hp:impl_Followed h_ cell=some y):∃ m,callo g88 0 88 [av .shr h_,av .shr cell] mem0=some (Res.res y,m):=by
 refine st0 [.tmp 4] Try.func88 ?_
 unfold impl_Followed at hp
 simp [Try.f88]
 obtain ⟨r_40,h_41,hp⟩:=zaa hp
 obtain ⟨I_3,I_3_⟩:=exV fun (s_1:(List Int) × Int) (σ:St)=>(σ.env 1=uI cell∧σ.env 2=uP (1,2)∧σ.env 5=uL .own s_1.1∧σ.env 6=uI s_1.2∧σ.mem (1,2)=some [cL .shr h_.vars,cL .shr h_.next])∧NoBox [(1,2)] σ.mem
 obtain ⟨X_4,X_4_⟩:=exV fun (r_40:((List Int)) ⊕ (Unit)) (out:Out)=>Sum.elim (fun r_40=>∃ σ:St,out=.exit 0 σ∧(σ.env 5=uL .own r_40∧σ.mem (1,2)=some [cL .shr h_.vars,cL .shr h_.next])∧NoBox [(1,2)] σ.mem) (fun r_40=>∃ σ:St,out=.ret σ∧(σ.env 4=.one (.l .own 0 [])∧σ.mem (1,2)=some [cL .shr h_.vars,cL .shr h_.next])∧NoBox [(1,2)] σ.mem) r_40
 refine loopP ({ hd:=[1,2,5,6],bx:=[],ex:=[5],rt:=[4] }) I_3 X_4 h_41 (by exact rfl) ?_ ?_ ?_
 ·rw [I_3_]
  exact ⟨by simp [zad,zab],NoBox.restrict (by intro k hk hb;simp at hk hb;simp [hk,hb])⟩
 ·intro s_1 σ_5 a_2 hI hp
  rw [I_3_] at hI
  obtain ⟨q_7,hn_6⟩:=hI
  try simp [q_7]
  rcases zae hp with ⟨h_8,hp⟩|⟨h_8,hp⟩
  ·try simp at h_8
   obtain ⟨y_9,h_10,hp⟩:=zaa hp
   have c_11:=C108_eq h_10
   simp at c_11
   try simp [q_7,h_8,c_11]
   rcases zae hp with ⟨h_12,hp⟩|⟨h_12,hp⟩
   ·try simp at h_12
    obtain ⟨y_13,h_14,hp⟩:=zaa hp
    have c_15:=C87_eq h_14
    simp at c_15
    try simp [q_7,h_8,h_12,c_15]
    rcases zae hp with ⟨h_16,hp⟩|⟨h_16,hp⟩
    ·try simp at h_16
     cases hp
     try simp [q_7,h_8,h_12,h_16]
     refine goal_outX ?_
     rw [X_4_]
     exact ⟨_,rfl,by simp [zad,zab,q_7,h_8,h_12,h_16],NoBox.restrict (by intro k hk hb;simp at hk hb;simp [hk,hb,q_7,h_8,h_12,h_16,hn_6 k (by simp [hk,hb])])⟩
    ·try simp at h_16
     obtain ⟨_,h_17,hp⟩:=zaa hp
     have b_18:=room_ok h_17
     try simp at b_18
     obtain ⟨e_19,h_20,hp⟩:=zaa hp
     have b_21:=at_lo h_20
     have b_22:=at_hi h_20
     try simp at b_21 b_22
     have c_23:=seg_at' h_20 0 1 (by decide) (ds:=[.sc (.int .i64 e_19)]) rfl
     try simp at c_23
     cases hp
     try simp [q_7,h_8,h_12,h_16,b_18,b_21,b_22,c_23]
     refine zaj ?_
     rw [I_3_]
     exact ⟨by simp [zad,zab,q_7,h_8,h_12,h_16,b_18,b_21,b_22,c_23],NoBox.restrict (by intro k hk hb;simp at hk hb;simp [hk,hb,q_7,h_8,h_12,h_16,b_18,b_21,b_22,c_23,hn_6 k (by simp [hk,hb])])⟩
   ·try simp at h_12
    cases hp
    try simp [q_7,h_8,h_12]
    refine goal_outR ?_
    rw [X_4_]
    exact ⟨_,rfl,by simp [zad,zab,q_7,h_8,h_12],NoBox.restrict (by intro k hk hb;simp at hk hb;simp [hk,hb,q_7,h_8,h_12,hn_6 k (by simp [hk,hb])])⟩
  ·try simp at h_8
   try simp [q_7,h_8]
   rcases zae hp with ⟨h_24,hp⟩|⟨h_24,hp⟩
   ·try simp at h_24
    obtain ⟨y_25,h_26,hp⟩:=zaa hp
    have c_27:=C108_eq h_26
    simp at c_27
    try simp [q_7,h_8,h_24,c_27]
    rcases zae hp with ⟨h_28,hp⟩|⟨h_28,hp⟩
    ·try simp at h_28
     obtain ⟨y_29,h_30,hp⟩:=zaa hp
     have c_31:=C87_eq h_30
     simp at c_31
     try simp [q_7,h_8,h_24,h_28,c_31]
     rcases zae hp with ⟨h_32,hp⟩|⟨h_32,hp⟩
     ·try simp at h_32
      cases hp
      try simp [q_7,h_8,h_24,h_28,h_32]
      refine goal_outX ?_
      rw [X_4_]
      exact ⟨_,rfl,by simp [zad,zab,q_7,h_8,h_24,h_28,h_32],NoBox.restrict (by intro k hk hb;simp at hk hb;simp [hk,hb,q_7,h_8,h_24,h_28,h_32,hn_6 k (by simp [hk,hb])])⟩
     ·try simp at h_32
      obtain ⟨_,h_33,hp⟩:=zaa hp
      have b_34:=room_ok h_33
      try simp at b_34
      obtain ⟨e_35,h_36,hp⟩:=zaa hp
      have b_37:=at_lo h_36
      have b_38:=at_hi h_36
      try simp at b_37 b_38
      have c_39:=seg_at' h_36 0 1 (by decide) (ds:=[.sc (.int .i64 e_35)]) rfl
      try simp at c_39
      cases hp
      try simp [q_7,h_8,h_24,h_28,h_32,b_34,b_37,b_38,c_39]
      refine zaj ?_
      rw [I_3_]
      exact ⟨by simp [zad,zab,q_7,h_8,h_24,h_28,h_32,b_34,b_37,b_38,c_39],NoBox.restrict (by intro k hk hb;simp at hk hb;simp [hk,hb,q_7,h_8,h_24,h_28,h_32,b_34,b_37,b_38,c_39,hn_6 k (by simp [hk,hb])])⟩
    ·try simp at h_28
     cases hp
     try simp [q_7,h_8,h_24,h_28]
     refine goal_outR ?_
     rw [X_4_]
     exact ⟨_,rfl,by simp [zad,zab,q_7,h_8,h_24,h_28],NoBox.restrict (by intro k hk hb;simp at hk hb;simp [hk,hb,q_7,h_8,h_24,h_28,hn_6 k (by simp [hk,hb])])⟩
   ·try simp at h_24
    cases hp
    try simp [q_7,h_8,h_24]
    refine goal_outX ?_
    rw [X_4_]
    exact ⟨_,rfl,by simp [zad,zab,q_7,h_8,h_24],NoBox.restrict (by intro k hk hb;simp at hk hb;simp [hk,hb,q_7,h_8,h_24,hn_6 k (by simp [hk,hb])])⟩
 ·intro out hX
  rw [X_4_] at hX
  rcases r_40 with r_40 | r_40
  ·simp only [Sum.elim_inl,Sum.elim_inr] at hX hp
   obtain ⟨σ_42,rfl,q_44,hn_43⟩:=hX
   cases hp
   simp [Goal,FnEnd,q_44]
  ·simp only [Sum.elim_inl,Sum.elim_inr] at hX hp
   obtain ⟨σ_45,rfl,q_47,hn_46⟩:=hX
   cases hp
   simp [Goal,FnEnd,q_47]
theorem pc88:PC Try.prog 88 C88:=pc_of (g:=g88) (zag _ g88_s.2.1 ⟨pc87,pc108,trivial⟩) (ent Try.func88) fun x y h=>w88 h

def C48:List AV→Option AV:=specP (X:=THeap × Unit) fun x=>impl_StructureOf x.1
theorem C48_eq {h_} {y} (h:impl_StructureOf h_=some y):C48 [av .shr h_]=some (Res.res y):=zaf (x:=(h_,())) h
def g48:Cfg:={ P:=Try.prog,take:=[(48,49),(48,58),(48,70),(48,71),(48,82),(48,96)],keep:=[((48,5),{ hd:=[1,2,3,29,30],bx:=[5],ex:=[2,3],rt:=[2] }),((48,9),{ hd:=[1,2,3,4,5,29,30,42,43,44],bx:=[],ex:=[1,2,3,4,5,29,30],rt:=[2] }),((48,16),{ hd:=[1,2,3,4,29,30,77,78],bx:=[],ex:=[1,2,3,29,30],rt:=[2] })],gho:=[],ctx:=[(64,C64),(84,C84),(85,C85),(86,C86),(87,C87),(88,C88)] }
@[simp] theorem g48_s:type_of% (cfg_s (g:=g48) rfl):=cfg_s rfl
theorem w48 {h_} {y} (hp:impl_StructureOf h_=some y):∃ m,callo g48 0 48 [av .shr h_] mem0=some (Res.res y,m):=by
 refine st0 [.cell 2 30] Try.func48 ?_
 unfold impl_StructureOf at hp
 obtain ⟨y_1,h_2,hp⟩:=zaa hp
 have c_3:=C84_eq h_2
 simp at c_3
 simp [Try.f48,c_3]
 rcases zae hp with ⟨h_4,hp⟩|⟨h_4,hp⟩
 ·try simp at h_4
  try simp [h_4]
  rcases zae hp with ⟨h_5,hp⟩|⟨h_5,hp⟩
  ·try simp at h_5
   cases hp
   simp [Goal,FnEnd,retR,rsrc,RSrc.val,nodupR,nodup,tupPart,h_4,h_5]
  ·try simp at h_5
   obtain ⟨y_6,h_7,hp⟩:=zaa hp
   have c_8:=C64_eq h_7
   simp at c_8
   try simp [h_4,h_5,c_8]
   rcases zae hp with ⟨h_9,hp⟩|⟨h_9,hp⟩
   ·try simp at h_9
    try simp [h_4,h_5,h_9]
    obtain ⟨r_84,h_85,hp⟩:=zaa hp
    obtain ⟨I_12,I_12_⟩:=exV fun (s_10:Int × (List TNode) × (List Int)) (σ:St)=>(σ.env 1=uP (1,1)∧σ.env 2=uP (1,2)∧σ.env 3=uP (1,3)∧σ.env 29=uI (h_.next.length:Int)∧σ.env 30=uI s_10.1∧σ.mem (1,1)=some [cL .shr h_.vars,cL .shr h_.next]∧σ.mem (1,2)=some [.l .own 0 [],.l .own 0 []]∧σ.mem (1,3)=some [cL .own s_10.2.1,cL .own s_10.2.2])∧NoBox [(1,1),(1,2),(1,3)] σ.mem
    obtain ⟨X_13,X_13_⟩:=exV fun (r_84:(List TNode) × (List Int)) (out:Out)=>∃ σ:St,out=.exit 0 σ∧(σ.env 2=uP (1,2)∧σ.env 3=uP (1,3)∧σ.mem (1,1)=some [cL .shr h_.vars,cL .shr h_.next]∧σ.mem (1,2)=some [.l .own 0 [],.l .own 0 []]∧σ.mem (1,3)=some [cL .own r_84.1,cL .own r_84.2])∧NoBox [(1,1),(1,2),(1,3)] σ.mem
    refine loopP ({ hd:=[1,2,3,29,30],bx:=[5],ex:=[2,3],rt:=[2] }) I_12 X_13 h_85 (by exact rfl) ?_ ?_ ?_
    ·rw [I_12_]
     exact ⟨by simp [zad,zab,h_4,h_5,h_9],NoBox.restrict (by intro k hk hb;simp at hk hb;simp [hk,hb,h_4,h_5,h_9])⟩
    ·intro s_10 σ_14 a_11 hI hp
     rw [I_12_] at hI
     obtain ⟨q_16,hn_15⟩:=hI
     try simp [h_4,h_5,h_9,q_16]
     rcases zae hp with ⟨h_17,hp⟩|⟨h_17,hp⟩
     ·try simp at h_17
      obtain ⟨y_18,h_19,hp⟩:=zaa hp
      have c_20:=C86_eq h_19
      simp at c_20
      obtain ⟨y_21,h_22,hp⟩:=zaa hp
      have c_23:=C85_eq h_22
      simp at c_23
      have n_24:=hn_15 (1,5) (by simp)
      try simp [h_4,h_5,h_9,q_16,h_17,c_20,c_23,n_24]
      obtain ⟨r_54,h_55,hp⟩:=zaa hp
      obtain ⟨I_27,I_27_⟩:=exV fun (s_25:Int × (List Int) × (List Int)) (σ:St)=>(σ.env 1=uP (1,1)∧σ.env 2=uP (1,2)∧σ.env 3=uP (1,3)∧σ.env 4=uI s_10.1∧σ.env 5=uP (1,5)∧σ.env 29=uI (h_.next.length:Int)∧σ.env 30=uI s_10.1∧σ.env 42=uL .shr h_.vars∧σ.env 43=uI (h_.vars.length:Int)∧σ.env 44=uI s_25.1∧σ.mem (1,1)=some [cL .shr h_.vars,cL .shr h_.next]∧σ.mem (1,2)=some [.l .own 0 [],.l .own 0 []]∧σ.mem (1,3)=some [cL .own s_10.2.1,cL .own s_10.2.2]∧σ.mem (1,5)=some [cL .own s_25.2.1,cL .own s_25.2.2,cI y_21,cI 0])∧NoBox [(1,1),(1,2),(1,3),(1,5)] σ.mem
      obtain ⟨X_28,X_28_⟩:=exV fun (r_54:(List Int) × (List Int)) (out:Out)=>∃ σ:St,out=.exit 2 σ∧(σ.env 1=uP (1,1)∧σ.env 2=uP (1,2)∧σ.env 3=uP (1,3)∧σ.env 4=uI s_10.1∧σ.env 5=uP (1,5)∧σ.env 29=uI (h_.next.length:Int)∧σ.env 30=uI s_10.1∧σ.mem (1,1)=some [cL .shr h_.vars,cL .shr h_.next]∧σ.mem (1,2)=some [.l .own 0 [],.l .own 0 []]∧σ.mem (1,3)=some [cL .own s_10.2.1,cL .own s_10.2.2]∧σ.mem (1,5)=some [cL .own r_54.1,cL .own r_54.2,cI y_21,cI 0])∧NoBox [(1,1),(1,2),(1,3),(1,5)] σ.mem
      refine loopP ({ hd:=[1,2,3,4,5,29,30,42,43,44],bx:=[],ex:=[1,2,3,4,5,29,30],rt:=[2] }) I_27 X_28 h_55 (by exact rfl) ?_ ?_ ?_
      ·rw [I_27_]
       exact ⟨by simp [zad,zab,h_4,h_5,h_9,q_16,h_17],NoBox.restrict (by intro k hk hb;simp at hk hb;simp [hk,hb,h_4,h_5,h_9,q_16,h_17,hn_15 k (by simp [hk,hb])])⟩
      ·intro s_25 σ_29 a_26 hI hp
       rw [I_27_] at hI
       obtain ⟨q_31,hn_30⟩:=hI
       try simp [h_4,h_5,h_9,h_17,q_31]
       rcases zae hp with ⟨h_32,hp⟩|⟨h_32,hp⟩
       ·try simp at h_32
        obtain ⟨e_33,h_34,hp⟩:=zaa hp
        have b_35:=at_lo h_34
        have b_36:=at_hi h_34
        try simp at b_35 b_36
        have c_37:=seg_at' h_34 0 1 (by decide) (ds:=[.sc (.int .i64 e_33)]) rfl
        try simp at c_37
        obtain ⟨y_38,h_39,hp⟩:=zaa hp
        have c_40:=C85_eq h_39
        simp at c_40
        obtain ⟨_,h_41,hp⟩:=zaa hp
        have b_42:=room_ok h_41
        try simp at b_42
        obtain ⟨y_43,h_44,hp⟩:=zaa hp
        have c_45:=C88_eq h_44
        simp at c_45
        obtain ⟨y_46,h_47,hp⟩:=zaa hp
        have c_48:=C87_eq h_47
        simp at c_48
        obtain ⟨y_49,h_50,hp⟩:=zaa hp
        have c_51:=C85_eq h_50
        simp at c_51
        obtain ⟨_,h_52,hp⟩:=zaa hp
        have b_53:=room_ok h_52
        try simp at b_53
        cases hp
        try simp [h_4,h_5,h_9,h_17,q_31,h_32,b_35,b_36,c_37,c_40,b_42,c_45,c_48,c_51,b_53]
        refine zaj ?_
        rw [I_27_]
        exact ⟨by simp [zad,zab,h_4,h_5,h_9,h_17,q_31,h_32,b_35,b_36,c_37,c_40,b_42,c_45,c_48,c_51,b_53],NoBox.restrict (by intro k hk hb;simp at hk hb;simp [hk,hb,h_4,h_5,h_9,h_17,q_31,h_32,b_35,b_36,c_37,c_40,b_42,c_45,c_48,c_51,b_53,hn_30 k (by simp [hk,hb])])⟩
       ·try simp at h_32
        cases hp
        try simp [h_4,h_5,h_9,h_17,q_31,h_32]
        refine goal_outX ?_
        rw [X_28_]
        exact ⟨_,rfl,by simp [zad,zab,h_4,h_5,h_9,h_17,q_31,h_32],NoBox.restrict (by intro k hk hb;simp at hk hb;simp [hk,hb,h_4,h_5,h_9,h_17,q_31,h_32,hn_30 k (by simp [hk,hb])])⟩
      ·intro out hX
       rw [X_28_] at hX
       obtain ⟨σ_56,rfl,q_58,hn_57⟩:=hX
       obtain ⟨_,h_59,hp⟩:=zaa hp
       have b_60:=room_ok h_59
       try simp at b_60
       try simp [h_4,h_5,h_9,h_17,q_58,b_60]
       obtain ⟨r_79,h_80,hp⟩:=zaa hp
       obtain ⟨I_63,I_63_⟩:=exV fun (s_61:Int × (List Int)) (σ:St)=>(σ.env 1=uP (1,1)∧σ.env 2=uP (1,2)∧σ.env 3=uP (1,3)∧σ.env 4=uI s_10.1∧σ.env 29=uI (h_.next.length:Int)∧σ.env 30=uI s_10.1∧σ.env 77=uI (h_.next.length:Int)∧σ.env 78=uI s_61.1∧σ.mem (1,1)=some [cL .shr h_.vars,cL .shr h_.next]∧σ.mem (1,2)=some [.l .own 0 [],.l .own 0 []]∧σ.mem (1,3)=some [cL .own (s_10.2.1 ++ [(⟨r_54.1,r_54.2,y_21,0⟩:TNode)]),cL .own s_61.2]∧σ.mem (1,5)=some [.dead,.dead,.dead,.dead])∧NoBox [(1,1),(1,2),(1,3),(1,5)] σ.mem
       obtain ⟨X_64,X_64_⟩:=exV fun (r_79:(List Int)) (out:Out)=>∃ σ:St,out=.exit 4 σ∧(σ.env 1=uP (1,1)∧σ.env 2=uP (1,2)∧σ.env 3=uP (1,3)∧σ.env 29=uI (h_.next.length:Int)∧σ.env 30=uI s_10.1∧σ.mem (1,1)=some [cL .shr h_.vars,cL .shr h_.next]∧σ.mem (1,2)=some [.l .own 0 [],.l .own 0 []]∧σ.mem (1,3)=some [cL .own (s_10.2.1 ++ [(⟨r_54.1,r_54.2,y_21,0⟩:TNode)]),cL .own r_79]∧σ.mem (1,5)=some [.dead,.dead,.dead,.dead])∧NoBox [(1,1),(1,2),(1,3),(1,5)] σ.mem
       refine loopP ({ hd:=[1,2,3,4,29,30,77,78],bx:=[],ex:=[1,2,3,29,30],rt:=[2] }) I_63 X_64 h_80 (by exact rfl) ?_ ?_ ?_
       ·rw [I_63_]
        exact ⟨by simp [zad,zab,h_4,h_5,h_9,h_17,q_58],NoBox.restrict (by intro k hk hb;simp at hk hb;simp [hk,hb,h_4,h_5,h_9,h_17,q_58,hn_57 k (by simp [hk,hb])])⟩
       ·intro s_61 σ_65 a_62 hI hp
        rw [I_63_] at hI
        obtain ⟨q_67,hn_66⟩:=hI
        try simp [h_4,h_5,h_9,h_17,q_67]
        rcases zae hp with ⟨h_68,hp⟩|⟨h_68,hp⟩
        ·try simp at h_68
         obtain ⟨e_69,h_70,hp⟩:=zaa hp
         have b_71:=at_lo h_70
         have b_72:=at_hi h_70
         try simp at b_71 b_72
         have c_73:=seg_at' h_70 0 1 (by decide) (ds:=[.sc (.int .i64 e_69)]) rfl
         try simp at c_73
         obtain ⟨y_74,h_75,hp⟩:=zaa hp
         have c_76:=C85_eq h_75
         simp at c_76
         obtain ⟨_,h_77,hp⟩:=zaa hp
         have b_78:=room_ok h_77
         try simp at b_78
         cases hp
         try simp [h_4,h_5,h_9,h_17,q_67,h_68,b_71,b_72,c_73,c_76,b_78]
         refine zaj ?_
         rw [I_63_]
         exact ⟨by simp [zad,zab,h_4,h_5,h_9,h_17,q_67,h_68,b_71,b_72,c_73,c_76,b_78],NoBox.restrict (by intro k hk hb;simp at hk hb;simp [hk,hb,h_4,h_5,h_9,h_17,q_67,h_68,b_71,b_72,c_73,c_76,b_78,hn_66 k (by simp [hk,hb])])⟩
        ·try simp at h_68
         cases hp
         try simp [h_4,h_5,h_9,h_17,q_67,h_68]
         refine goal_outX ?_
         rw [X_64_]
         exact ⟨_,rfl,by simp [zad,zab,h_4,h_5,h_9,h_17,q_67,h_68],NoBox.restrict (by intro k hk hb;simp at hk hb;simp [hk,hb,h_4,h_5,h_9,h_17,q_67,h_68,hn_66 k (by simp [hk,hb])])⟩
       ·intro out hX
        rw [X_64_] at hX
        obtain ⟨σ_81,rfl,q_83,hn_82⟩:=hX
        cases hp
        try simp [h_4,h_5,h_9,h_17,q_83]
        refine zaj ?_
        rw [I_12_]
        exact ⟨by simp [zad,zab,h_4,h_5,h_9,h_17,q_83],NoBox.restrict (by intro k hk hb;simp at hk hb;simp [hk,hb,h_4,h_5,h_9,h_17,q_83,hn_82 k (by simp [hk,hb])])⟩
     ·try simp at h_17
      cases hp
      try simp [h_4,h_5,h_9,q_16,h_17]
      refine goal_outX ?_
      rw [X_13_]
      exact ⟨_,rfl,by simp [zad,zab,h_4,h_5,h_9,q_16,h_17],NoBox.restrict (by intro k hk hb;simp at hk hb;simp [hk,hb,h_4,h_5,h_9,q_16,h_17,hn_15 k (by simp [hk,hb])])⟩
    ·intro out hX
     rw [X_13_] at hX
     obtain ⟨σ_86,rfl,q_88,hn_87⟩:=hX
     cases hp
     simp [Goal,FnEnd,retR,rsrc,RSrc.val,nodupR,nodup,tupPart,h_4,h_5,h_9,q_88]
   ·try simp at h_9
    cases hp
    simp [Goal,FnEnd,retR,rsrc,RSrc.val,nodupR,nodup,tupPart,h_4,h_5,h_9]
 ·try simp at h_4
  cases hp
  simp [Goal,FnEnd,retR,rsrc,RSrc.val,nodupR,nodup,tupPart,h_4]
theorem pc48:PC Try.prog 48 C48:=pc_of (g:=g48) (zag _ g48_s.2.1 ⟨pc64,pc84,pc85,pc86,pc87,pc88,trivial⟩) (ent Try.func48) fun x y h=>w48 h

def C18:List AV→Option AV:=specP (X:=THeap × Unit) fun x=>impl_AbstractionOf x.1
theorem C18_eq {h_} {y} (h:impl_AbstractionOf h_=some y):C18 [av .shr h_]=some (Res.res y):=zaf (x:=(h_,())) h
def g18:Cfg:={ P:=Try.prog,take:=[],keep:=[],gho:=[],ctx:=[(12,C12),(48,C48)] }
@[simp] theorem g18_s:type_of% (cfg_s (g:=g18) rfl):=cfg_s rfl
theorem w18 {h_} {y} (hp:impl_AbstractionOf h_=some y):∃ m,callo g18 0 18 [av .shr h_] mem0=some (Res.res y,m):=by
 refine st0 [.cell 2 30] Try.func18 ?_
 unfold impl_AbstractionOf at hp
 obtain ⟨y_1,h_2,hp⟩:=zaa hp
 have c_3:=C48_eq h_2
 simp at c_3
 obtain ⟨y_4,h_5,hp⟩:=zaa hp
 have c_6:=C12_eq h_5
 simp at c_6
 cases hp
 simp [Try.f18,Goal,FnEnd,retR,rsrc,RSrc.val,nodupR,nodup,tupPart,c_3,c_6]
theorem pc18:PC Try.prog 18 C18:=pc_of (g:=g18) (zag _ g18_s.2.1 ⟨pc12,pc48,trivial⟩) (ent Try.func18) fun x y h=>w18 h

def C19:List AV→Option AV:=specP (X:=THeap × THeap × Unit) fun x=>laws_eqHeap x.1 x.2.1
theorem C19_eq {a_ b_} {y} (h:laws_eqHeap a_ b_=some y):C19 [av .shr a_,av .shr b_]=some (Res.res y):=zaf (x:=(a_,b_,())) h
def g19:Cfg:={ P:=Try.prog,take:=[],keep:=[],gho:=[],ctx:=[(28,C28)] }
@[simp] theorem g19_s:type_of% (cfg_s (g:=g19) rfl):=cfg_s rfl
theorem w19 {a_ b_} {y} (hp:laws_eqHeap a_ b_=some y):∃ m,callo g19 0 19 [av .shr a_,av .shr b_] mem0=some (Res.res y,m):=by
 refine st0 [.tmp 4] Try.func19 ?_
 unfold laws_eqHeap at hp
 obtain ⟨y_1,h_2,hp⟩:=zaa hp
 have c_3:=C28_eq h_2
 simp at c_3
 simp [Try.f19,c_3]
 rcases zae hp with ⟨h_4,hp⟩|⟨h_4,hp⟩
 ·try simp at h_4
  obtain ⟨y_5,h_6,hp⟩:=zaa hp
  have c_7:=C28_eq h_6
  simp at c_7
  try simp [h_4,c_7]
  rcases zae hp with ⟨h_8,hp⟩|⟨h_8,hp⟩
  ·try simp at h_8
   cases hp
   simp [Goal,FnEnd,h_4,h_8]
  ·try simp at h_8
   cases hp
   simp [Goal,FnEnd,h_4,h_8]
 ·try simp at h_4
  cases hp
  simp [Goal,FnEnd,h_4]
theorem pc19:PC Try.prog 19 C19:=pc_of (g:=g19) (zag _ g19_s.2.1 ⟨pc28,trivial⟩) (ent Try.func19) fun x y h=>w19 h

def C5:List AV→Option AV:=specP (X:=THeap × Unit) fun x=>laws_FnExactAbstractionOf x.1
theorem C5_eq {aH} {y} (h:laws_FnExactAbstractionOf aH=some y):C5 [av .shr aH]=some (Res.res y):=zaf (x:=(aH,())) h
def g5:Cfg:={ P:=Try.prog,take:=[],keep:=[((44,2),rowKp),((43,2),rowKp)],gho:=[((5,13),[.many (thawBox 1 5)]),((5,2000013),[.many (frzBox 1 5)]),((5,17),[.many (thawBox 1 6)]),((5,2000017),[.many (frzBox 1 6)])],ctx:=[(10,C10),(14,C14),(15,C15),(16,C16),(17,C17),(18,C18),(19,C19)] }
@[simp] theorem g5_s:type_of% (cfg_s (g:=g5) rfl):=cfg_s rfl
theorem w5 {aH} {y} (hp:laws_FnExactAbstractionOf aH=some y):∃ m,callo g5 0 5 [av .shr aH] mem0=some (Res.res y,m):=by
 have G_20:G20 g5:=⟨rfl,by kernel_rfl,rfl,fun t=>by simp,noAway (fun t=>by simp) (by simp) (fun t=>by simp),by simp [lookN],fun i=>by simp [lookK],by simp [g5,lookK],by simp⟩
 have G_44:G44 g5:=⟨rfl,by kernel_rfl,rfl,fun t=>by simp,noAway (fun t=>by simp) (by simp) (fun t=>by simp),by simp [lookN],fun i=>by simp [lookK],by simp [g5,lookK],by simp⟩
 have G_13:G13 g5:=⟨rfl,by kernel_rfl,rfl,fun t=>by simp,noAway (fun t=>by simp) (by simp) (fun t=>by simp),by simp [lookN],fun i=>by simp [lookK],by simp [g5,lookK],by simp⟩
 have G_43:G43 g5:=⟨rfl,by kernel_rfl,rfl,fun t=>by simp,noAway (fun t=>by simp) (by simp) (fun t=>by simp),by simp [lookN],fun i=>by simp [lookK],by simp [g5,lookK],by simp⟩
 refine st0 [.tmp 2] Try.func5 ?_
 unfold laws_FnExactAbstractionOf at hp
 obtain ⟨y_1,h_2,hp⟩:=zaa hp
 have c_3:=C15_eq h_2
 simp at c_3
 simp [Try.f5,c_3]
 rcases zae hp with ⟨h_4,hp⟩|⟨h_4,hp⟩
 ·try simp at h_4
  cases hp
  simp [Goal,FnEnd,h_4]
 ·try simp at h_4
  obtain ⟨y_5,h_6,hp⟩:=zaa hp
  have c_7:=C17_eq h_6
  simp at c_7
  obtain ⟨y_8,h_9,hp⟩:=zaa hp
  have c_10:=C16_eq h_9
  simp at c_10
  obtain ⟨y_11,h_12,hp⟩:=zaa hp
  cases Option.some.inj (h_6.symm.trans h_12)
  obtain ⟨y_13,h_14,hp⟩:=zaa hp
  have c_15:=C18_eq h_14
  simp at c_15
  obtain ⟨y_16,h_17,hp⟩:=zaa hp
  have c_18:=C10_eq h_17
  simp at c_18
  try simp [h_4,c_7,c_10,c_7,c_15,c_18]
  rcases zae hp with ⟨h_19,hp⟩|⟨h_19,hp⟩
  ·try simp at h_19
   obtain ⟨y_20,h_21,hp⟩:=zaa hp
   cases Option.some.inj (h_6.symm.trans h_21)
   obtain ⟨y_22,h_23,hp⟩:=zaa hp
   have c_24:=C19_eq h_23
   simp at c_24
   try simp [h_4,h_19,c_7,c_24]
   rcases zae hp with ⟨h_25,hp⟩|⟨h_25,hp⟩
   ·try simp at h_25
    obtain ⟨r_26,h_27,hp⟩:=zaa hp
    obtain ⟨lg_28,e_29⟩:=markO_eq h_27
    have mk_30:=mk20 G_20 G_44 y_5 1 lg_28
    rw [e_29] at mk_30
    try simp [h_4,h_19,h_25]
    refine goal_markB 5 5 7 32 33 34 20 mk_30 (show ti g5.P 40=some _ from ti_40) rfl rfl (by decide) (by simp [h_4,h_19,h_25]) (by simp [h_4,h_19,h_25]) (by simp [h_4,h_19,h_25]) (WfE.wfE _) (WfE.wfE _) (fun key hkey=>by simp [mem0,key_low hkey 1 1 (by decide),key_low hkey 1 4 (by decide),key_low hkey 1 5 (by decide),key_low hkey 1 6 (by decide),h_4,h_19,h_25]) (by simp) (by simp) (by simp) rfl (by decide) fun σ_31 qq_32 hq_33 hx_34 hk_35 he_36 hd_37 hm_38=>?_
    obtain ⟨q_39,q_40,q_41,q_42,q_43,q_44,q_45,q_46⟩:σ_31.env 1=uP (1,1)∧σ_31.env 4=uP (1,4)∧σ_31.env 6=uP (1,6)∧σ_31.env 7=uI r_26.2∧σ_31.mem (1,1)=some [cL .shr aH.vars,cL .shr aH.next]∧σ_31.mem (1,4)=some [cL .own y_8.nodes,cL .own y_8.next]∧σ_31.mem (1,5)=some [cL .own r_26.1.vars,cL .own r_26.1.next]∧σ_31.mem (1,6)=some [cL .own y_13.nodes,cL .own y_13.next]:=by refine ⟨(he_36 1 (by decide) (by decide) (by decide) (by decide)).trans ?_,(he_36 4 (by decide) (by decide) (by decide) (by decide)).trans ?_,(he_36 6 (by decide) (by decide) (by decide) (by decide)).trans ?_,hk_35,(hm_38 (1,1) (by decide) (by decide) (by decide)).trans ?_,(hm_38 (1,4) (by decide) (by decide) (by decide)).trans ?_,hx_34.trans (by simp),(hm_38 (1,6) (by decide) (by decide) (by decide)).trans ?_⟩ <;> simp [h_4,h_19,h_25,hq_33 (1,1) (by decide) (by decide),hq_33 (1,4) (by decide) (by decide),hq_33 (1,5) (by decide) (by decide),hq_33 (1,6) (by decide) (by decide)]
    have hn_47:NoBox [(1,1),(1,4),(1,5),(1,6)] σ_31.mem:=by
     intro key hk
     by_cases hl:1 < key.1∨bigK≤key.2
     ·exact hd_37 key hl
     ·rw [hm_38 key (by rintro rfl;simp at hk) (by omega) (by omega)]
      simp at hk
      simp [mem0,hk,h_4,h_19,h_25]
    try simp [h_4,h_19,h_25,q_39,q_40,q_41,q_42,q_43,q_44,q_45,q_46]
    rcases zae hp with ⟨h_48,hp⟩|⟨h_48,hp⟩
    ·try simp at h_48
     cases hp
     simp [Goal,FnEnd,h_4,h_19,h_25,q_39,q_40,q_41,q_42,q_43,q_44,q_45,q_46,h_48]
    ·try simp at h_48
     obtain ⟨y_49,h_50,hp⟩:=zaa hp
     have c_51:=C10_eq h_50
     simp at c_51
     try simp [h_4,h_19,h_25,q_39,q_40,q_41,q_42,q_43,q_44,q_45,q_46,h_48,c_51]
     rcases zae hp with ⟨h_52,hp⟩|⟨h_52,hp⟩
     ·try simp at h_52
      obtain ⟨r_53,h_54,hp⟩:=zaa hp
      obtain ⟨lg_55,e_56⟩:=markO_eq h_54
      have mk_57:=mk13 G_13 G_43 G_44 y_13 1 lg_55
      rw [e_56] at mk_57
      try simp [h_4,h_19,h_25,q_39,q_40,q_41,q_42,q_43,q_44,q_45,q_46,h_48,h_52]
      refine goal_markB 6 6 8 43 44 45 13 mk_57 (show ti g5.P 30=some _ from ti_30) rfl rfl (by decide) (by simp [h_4,h_19,h_25,q_39,q_40,q_41,q_42,q_43,q_44,q_45,q_46,h_48,h_52]) (by simp [h_4,h_19,h_25,q_39,q_40,q_41,q_42,q_43,q_44,q_45,q_46,h_48,h_52]) (by simp [h_4,h_19,h_25,q_39,q_40,q_41,q_42,q_43,q_44,q_45,q_46,h_48,h_52]) (WfE.wfE _) (WfE.wfE _) (fun key hkey=>by simp [mem0,key_low hkey 1 1 (by decide),key_low hkey 1 4 (by decide),key_low hkey 1 5 (by decide),key_low hkey 1 6 (by decide),h_4,h_19,h_25,q_39,q_40,q_41,q_42,q_43,q_44,q_45,q_46,h_48,h_52,hn_47 key (by simp [key_low hkey 1 1 (by decide),key_low hkey 1 4 (by decide),key_low hkey 1 5 (by decide),key_low hkey 1 6 (by decide)])]) (by simp) (by simp) (by simp) rfl (by decide) fun σ_58 qq_59 hq_60 hx_61 hk_62 he_63 hd_64 hm_65=>?_
      obtain ⟨q_66,q_67,q_68,q_69,q_70,q_71,q_72,q_73⟩:σ_58.env 1=uP (1,1)∧σ_58.env 4=uP (1,4)∧σ_58.env 6=uP (1,6)∧σ_58.env 8=uI r_53.2∧σ_58.mem (1,1)=some [cL .shr aH.vars,cL .shr aH.next]∧σ_58.mem (1,4)=some [cL .own y_8.nodes,cL .own y_8.next]∧σ_58.mem (1,5)=some [cL .own r_26.1.vars,cL .own r_26.1.next]∧σ_58.mem (1,6)=some [cL .own r_53.1.nodes,cL .own r_53.1.next]:=by refine ⟨(he_63 1 (by decide) (by decide) (by decide) (by decide)).trans ?_,(he_63 4 (by decide) (by decide) (by decide) (by decide)).trans ?_,(he_63 6 (by decide) (by decide) (by decide) (by decide)).trans ?_,hk_62,(hm_65 (1,1) (by decide) (by decide) (by decide)).trans ?_,(hm_65 (1,4) (by decide) (by decide) (by decide)).trans ?_,(hm_65 (1,5) (by decide) (by decide) (by decide)).trans ?_,hx_61.trans (by simp)⟩ <;> simp [h_4,h_19,h_25,q_39,q_40,q_41,q_42,q_43,q_44,q_45,q_46,h_48,h_52,hq_60 (1,1) (by decide) (by decide),hq_60 (1,4) (by decide) (by decide),hq_60 (1,5) (by decide) (by decide),hq_60 (1,6) (by decide) (by decide)]
      have hn_74:NoBox [(1,1),(1,4),(1,5),(1,6)] σ_58.mem:=by
       intro key hk
       by_cases hl:1 < key.1∨bigK≤key.2
       ·exact hd_64 key hl
       ·rw [hm_65 key (by rintro rfl;simp at hk) (by omega) (by omega)]
        simp at hk
        simp [mem0,hk,h_4,h_19,h_25,q_39,q_40,q_41,q_42,q_43,q_44,q_45,q_46,h_48,h_52,hn_47 key (by simp [hk])]
      obtain ⟨y_75,h_76,hp⟩:=zaa hp
      have c_77:=C14_eq h_76
      simp at c_77
      try simp [h_4,h_19,h_25,h_48,h_52,q_66,q_67,q_68,q_69,q_70,q_71,q_72,q_73,c_77]
      rcases zae hp with ⟨h_78,hp⟩|⟨h_78,hp⟩
      ·try simp at h_78
       cases hp
       simp [Goal,FnEnd,h_4,h_19,h_25,h_48,h_52,q_66,q_67,q_68,q_69,q_70,q_71,q_72,q_73,h_78]
      ·try simp at h_78
       try simp [h_4,h_19,h_25,h_48,h_52,q_66,q_67,q_68,q_69,q_70,q_71,q_72,q_73,h_78]
       rcases zae hp with ⟨h_79,hp⟩|⟨h_79,hp⟩
       ·try simp at h_79
        cases hp
        simp [Goal,FnEnd,h_4,h_19,h_25,h_48,h_52,q_66,q_67,q_68,q_69,q_70,q_71,q_72,q_73,h_78,h_79]
       ·try simp at h_79
        obtain ⟨y_80,h_81,hp⟩:=zaa hp
        have c_82:=C17_eq h_81
        simp at c_82
        obtain ⟨y_83,h_84,hp⟩:=zaa hp
        have c_85:=C18_eq h_84
        simp at c_85
        have n_86:=hn_74 (1,10) (by simp)
        obtain ⟨y_87,h_88,hp⟩:=zaa hp
        have c_89:=C10_eq h_88
        simp at c_89
        try simp [h_4,h_19,h_25,h_48,h_52,q_66,q_67,q_68,q_69,q_70,q_71,q_72,q_73,h_78,h_79,c_82,c_85,n_86,c_89]
        rcases zae hp with ⟨h_90,hp⟩|⟨h_90,hp⟩
        ·try simp at h_90
         obtain ⟨y_91,h_92,hp⟩:=zaa hp
         cases Option.some.inj (h_76.symm.trans h_92)
         cases hp
         simp [Goal,FnEnd,h_4,h_19,h_25,h_48,h_52,q_66,q_67,q_68,q_69,q_70,q_71,q_72,q_73,h_78,h_79,h_90,c_77]
        ·try simp at h_90
         cases hp
         simp [Goal,FnEnd,h_4,h_19,h_25,h_48,h_52,q_66,q_67,q_68,q_69,q_70,q_71,q_72,q_73,h_78,h_79,h_90]
     ·try simp at h_52
      cases hp
      simp [Goal,FnEnd,h_4,h_19,h_25,q_39,q_40,q_41,q_42,q_43,q_44,q_45,q_46,h_48,h_52]
   ·try simp at h_25
    cases hp
    simp [Goal,FnEnd,h_4,h_19,h_25]
  ·try simp at h_19
   cases hp
   simp [Goal,FnEnd,h_4,h_19]
theorem pc5:PC Try.prog 5 C5:=pc_of (g:=g5) (zag _ g5_s.2.1 ⟨pc10,pc14,pc15,pc16,pc17,pc18,pc19,trivial⟩) (ent Try.func5) fun x y h=>w5 h
end Go.Proofs

