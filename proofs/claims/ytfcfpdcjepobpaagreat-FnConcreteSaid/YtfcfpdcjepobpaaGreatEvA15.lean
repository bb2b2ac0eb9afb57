import Derived.Test.YtfcfpdcjepobpaaGreatEvA14
set_option linter.unusedSimpArgs false
set_option linter.unusedVariables false
set_option linter.unnecessarySimpa false
noncomputable section
set_option maxHeartbeats 4000000
set_option maxRecDepth 100000
namespace Go.Proofs
open Go.Ev
def C146:List AV→Option AV:=specP (X:=THeap × Unit) fun x=>zcj x.1
theorem C146_eq {h_} {y} (h:zcj h_=some y):C146 [av .shr h_]=some (Res.res y):=zah (x:=(h_,())) h
def g146:Cfg:={ P:=Tryz.prog,take:=[],keep:=[((146,2),{ hd:=[1,6,7],bx:=[],ex:=[],rt:=[2] })],gho:=[],ctx:=[(109,C109),(110,C110)] }
@[simp] theorem g146_s:type_of% (cfg_s (g:=g146) rfl):=cfg_s rfl
theorem w146 {h_} {y} (hp:zcj h_=some y):∃ m,callo g146 0 146 [av .shr h_] mem0=some (Res.res y,m):=by
 refine st0 [.tmp 2] Tryz.func146 ?_
 unfold zcj at hp
 simp [Tryz.f146]
 obtain ⟨r_21,h_22,hp⟩:=zab hp
 obtain ⟨I_3,I_3_⟩:=exV fun (s_1:Int) (σ:St)=>(σ.env 1=uP (1,1)∧σ.env 6=uI (h_.next.length:Int)∧σ.env 7=uI s_1∧σ.mem (1,1)=some [cL .shr h_.vars,cL .shr h_.next])∧NoBox [(1,1)] σ.mem
 obtain ⟨X_4,X_4_⟩:=exV fun (r_21:(Bool) ⊕ (Unit)) (out:Out)=>Sum.elim (fun r_21=>∃ σ:St,out=.ret σ∧(σ.env 2=uB r_21∧σ.mem (1,1)=some [cL .shr h_.vars,cL .shr h_.next])∧NoBox [(1,1)] σ.mem) (fun r_21=>∃ σ:St,out=.exit 0 σ∧σ.mem (1,1)=some [cL .shr h_.vars,cL .shr h_.next]∧NoBox [(1,1)] σ.mem) r_21
 refine loopP ({ hd:=[1,6,7],bx:=[],ex:=[],rt:=[2] }) I_3 X_4 h_22 (by exact rfl) ?_ ?_ ?_
 ·rw [I_3_]
  exact ⟨by simp [zac,zaa],NoBox.restrict (by intro k hk hb;simp at hk hb;simp [hk,hb])⟩
 ·intro s_1 σ_5 a_2 hI hp
  rw [I_3_] at hI
  obtain ⟨q_7,hn_6⟩:=hI
  try simp [q_7]
  rcases zad hp with ⟨h_8,hp⟩|⟨h_8,hp⟩
  ·try simp at h_8
   obtain ⟨e_9,h_10,hp⟩:=zab hp
   have b_11:=at_lo h_10
   have b_12:=at_hi h_10
   try simp at b_11 b_12
   have c_13:=seg_at' h_10 0 1 (by decide) (ds:=[.sc (.int .i64 e_9)]) rfl
   try simp at c_13
   obtain ⟨y_14,h_15,hp⟩:=zab hp
   have c_16:=C110_eq h_15
   simp at c_16
   obtain ⟨y_17,h_18,hp⟩:=zab hp
   have c_19:=zlz h_18
   simp at c_19
   try simp [q_7,h_8,b_11,b_12,c_13,c_16,c_19]
   rcases zad hp with ⟨h_20,hp⟩|⟨h_20,hp⟩
   ·try simp at h_20
    cases hp
    try simp [q_7,h_8,h_20]
    refine zal ?_
    rw [X_4_]
    exact ⟨_,rfl,by simp [zac,zaa,q_7,h_8,h_20],NoBox.restrict (by intro k hk hb;simp at hk hb;simp [hk,hb,q_7,h_8,h_20,hn_6 k (by simp [hk,hb])])⟩
   ·try simp at h_20
    cases hp
    try simp [q_7,h_8,h_20]
    refine zae ?_
    rw [I_3_]
    exact ⟨by simp [zac,zaa,q_7,h_8,h_20],NoBox.restrict (by intro k hk hb;simp at hk hb;simp [hk,hb,q_7,h_8,h_20,hn_6 k (by simp [hk,hb])])⟩
  ·try simp at h_8
   cases hp
   try simp [q_7,h_8]
   refine zag ?_
   rw [X_4_]
   exact ⟨_,rfl,by simp [zac,zaa,q_7,h_8],NoBox.restrict (by intro k hk hb;simp at hk hb;simp [hk,hb,q_7,h_8,hn_6 k (by simp [hk,hb])])⟩
 ·intro out hX
  rw [X_4_] at hX
  rcases r_21 with r_21 | r_21
  ·simp only [Sum.elim_inl,Sum.elim_inr] at hX hp
   obtain ⟨σ_23,rfl,q_25,hn_24⟩:=hX
   cases hp
   simp [Goal,FnEnd,q_25]
  ·simp only [Sum.elim_inl,Sum.elim_inr] at hX hp
   obtain ⟨σ_26,rfl,q_28,hn_27⟩:=hX
   cases hp
   simp [Goal,FnEnd,q_28]
theorem pc146:PC Tryz.prog 146 C146:=pc_of (g:=g146) (zai _ g146_s.2.1 ⟨pc109,pc110,trivial⟩) (ent Tryz.func146) fun x y h=>w146 h

def C147:List AV→Option AV:=specP (X:=THeap × Unit) fun x=>zey x.1
theorem C147_eq {h_} {y} (h:zey h_=some y):C147 [av .shr h_]=some (Res.res y):=zah (x:=(h_,())) h
def g147:Cfg:={ P:=Tryz.prog,take:=[(147,28),(147,34)],keep:=[((147,3),{ hd:=[1,3,10,11,12],bx:=[],ex:=[3],rt:=[2] }),((147,6),{ hd:=[1,3,10,11,12,18,19,20],bx:=[],ex:=[1,3,10,11,12],rt:=[2] })],gho:=[],ctx:=[(109,C109),(110,C110)] }
@[simp] theorem g147_s:type_of% (cfg_s (g:=g147) rfl):=cfg_s rfl
theorem w147 {h_} {y} (hp:zey h_=some y):∃ m,callo g147 0 147 [av .shr h_] mem0=some (Res.res y,m):=by
 refine st0 [.tmp 2] Tryz.func147 ?_
 unfold zey at hp
 simp [Tryz.f147]
 obtain ⟨r_41,h_42,hp⟩:=zab hp
 obtain ⟨I_3,I_3_⟩:=exV fun (s_1:(List Int) × Int) (σ:St)=>(σ.env 1=uP (1,1)∧σ.env 3=uL .own s_1.1∧σ.env 10=uL .shr h_.vars∧σ.env 11=uI (h_.vars.length:Int)∧σ.env 12=uI s_1.2∧σ.mem (1,1)=some [cL .shr h_.vars,cL .shr h_.next])∧NoBox [(1,1)] σ.mem
 obtain ⟨X_4,X_4_⟩:=exV fun (r_41:(List Int)) (out:Out)=>∃ σ:St,out=.exit 0 σ∧(σ.env 3=uL .own r_41∧σ.mem (1,1)=some [cL .shr h_.vars,cL .shr h_.next])∧NoBox [(1,1)] σ.mem
 refine loopP ({ hd:=[1,3,10,11,12],bx:=[],ex:=[3],rt:=[2] }) I_3 X_4 h_42 (by exact rfl) ?_ ?_ ?_
 ·rw [I_3_]
  exact ⟨by simp [zac,zaa],NoBox.restrict (by intro k hk hb;simp at hk hb;simp [hk,hb])⟩
 ·intro s_1 σ_5 a_2 hI hp
  rw [I_3_] at hI
  obtain ⟨q_7,hn_6⟩:=hI
  try simp [q_7]
  rcases zad hp with ⟨h_8,hp⟩|⟨h_8,hp⟩
  ·try simp at h_8
   obtain ⟨e_9,h_10,hp⟩:=zab hp
   have b_11:=at_lo h_10
   have b_12:=at_hi h_10
   try simp at b_11 b_12
   have c_13:=seg_at' h_10 0 1 (by decide) (ds:=[.sc (.int .i64 e_9)]) rfl
   try simp at c_13
   obtain ⟨y_14,h_15,hp⟩:=zab hp
   have c_16:=C110_eq h_15
   simp at c_16
   try simp [q_7,h_8,b_11,b_12,c_13,c_16]
   obtain ⟨r_36,h_37,hp⟩:=zab hp
   obtain ⟨I_19,I_19_⟩:=exV fun (s_17:Int × (List Int)) (σ:St)=>(σ.env 1=uP (1,1)∧σ.env 3=uL .own s_17.2∧σ.env 10=uL .shr h_.vars∧σ.env 11=uI (h_.vars.length:Int)∧σ.env 12=uI s_1.2∧σ.env 18=uL .own y_14∧σ.env 19=uI (y_14.length:Int)∧σ.env 20=uI s_17.1∧σ.mem (1,1)=some [cL .shr h_.vars,cL .shr h_.next])∧NoBox [(1,1)] σ.mem
   obtain ⟨X_20,X_20_⟩:=exV fun (r_36:(List Int)) (out:Out)=>∃ σ:St,out=.exit 2 σ∧(σ.env 1=uP (1,1)∧σ.env 3=uL .own r_36∧σ.env 10=uL .shr h_.vars∧σ.env 11=uI (h_.vars.length:Int)∧σ.env 12=uI s_1.2∧σ.mem (1,1)=some [cL .shr h_.vars,cL .shr h_.next])∧NoBox [(1,1)] σ.mem
   refine loopP ({ hd:=[1,3,10,11,12,18,19,20],bx:=[],ex:=[1,3,10,11,12],rt:=[2] }) I_19 X_20 h_37 (by exact rfl) ?_ ?_ ?_
   ·rw [I_19_]
    exact ⟨by simp [zac,zaa,q_7,h_8],NoBox.restrict (by intro k hk hb;simp at hk hb;simp [hk,hb,q_7,h_8,hn_6 k (by simp [hk,hb])])⟩
   ·intro s_17 σ_21 a_18 hI hp
    rw [I_19_] at hI
    obtain ⟨q_23,hn_22⟩:=hI
    try simp [h_8,q_23]
    rcases zad hp with ⟨h_24,hp⟩|⟨h_24,hp⟩
    ·try simp at h_24
     obtain ⟨e_25,h_26,hp⟩:=zab hp
     have b_27:=at_lo h_26
     have b_28:=at_hi h_26
     try simp at b_27 b_28
     have c_29:=seg_at' h_26 0 1 (by decide) (ds:=[.sc (.int .i64 e_25)]) rfl
     try simp at c_29
     obtain ⟨y_30,h_31,hp⟩:=zab hp
     have c_32:=zlz h_31
     simp at c_32
     try simp [h_8,q_23,h_24,b_27,b_28,c_29,c_32]
     rcases zad hp with ⟨h_33,hp⟩|⟨h_33,hp⟩
     ·try simp at h_33
      cases hp
      try simp [h_8,q_23,h_24,h_33]
      refine zae ?_
      rw [I_19_]
      exact ⟨by simp [zac,zaa,h_8,q_23,h_24,h_33],NoBox.restrict (by intro k hk hb;simp at hk hb;simp [hk,hb,h_8,q_23,h_24,h_33,hn_22 k (by simp [hk,hb])])⟩
     ·try simp at h_33
      obtain ⟨_,h_34,hp⟩:=zab hp
      have b_35:=zap h_34
      try simp at b_35
      cases hp
      try simp [h_8,q_23,h_24,h_33,b_35]
      refine zae ?_
      rw [I_19_]
      exact ⟨by simp [zac,zaa,h_8,q_23,h_24,h_33,b_35],NoBox.restrict (by intro k hk hb;simp at hk hb;simp [hk,hb,h_8,q_23,h_24,h_33,b_35,hn_22 k (by simp [hk,hb])])⟩
    ·try simp at h_24
     cases hp
     try simp [h_8,q_23,h_24]
     refine zag ?_
     rw [X_20_]
     exact ⟨_,rfl,by simp [zac,zaa,h_8,q_23,h_24],NoBox.restrict (by intro k hk hb;simp at hk hb;simp [hk,hb,h_8,q_23,h_24,hn_22 k (by simp [hk,hb])])⟩
   ·intro out hX
    rw [X_20_] at hX
    obtain ⟨σ_38,rfl,q_40,hn_39⟩:=hX
    cases hp
    try simp [h_8,q_40]
    refine zae ?_
    rw [I_3_]
    exact ⟨by simp [zac,zaa,h_8,q_40],NoBox.restrict (by intro k hk hb;simp at hk hb;simp [hk,hb,h_8,q_40,hn_39 k (by simp [hk,hb])])⟩
  ·try simp at h_8
   cases hp
   try simp [q_7,h_8]
   refine zag ?_
   rw [X_4_]
   exact ⟨_,rfl,by simp [zac,zaa,q_7,h_8],NoBox.restrict (by intro k hk hb;simp at hk hb;simp [hk,hb,q_7,h_8,hn_6 k (by simp [hk,hb])])⟩
 ·intro out hX
  rw [X_4_] at hX
  obtain ⟨σ_43,rfl,q_45,hn_44⟩:=hX
  cases hp
  simp [Goal,FnEnd,q_45]
theorem pc147:PC Tryz.prog 147 C147:=pc_of (g:=g147) (zai _ g147_s.2.1 ⟨pc109,pc110,trivial⟩) (ent Tryz.func147) fun x y h=>w147 h

def C119:List AV→Option AV:=specP (X:=Int × THeap × Unit) fun x=>zek x.1 x.2.1
theorem C119_eq {vars h_} {y} (h:zek vars h_=some y):C119 [av .shr vars,av .shr h_]=some (Res.res y):=zah (x:=(vars,h_,())) h
def g119:Cfg:={ P:=Tryz.prog,take:=[],keep:=[((119,5),{ hd:=[3,5,35,36,37],bx:=[],ex:=[3,5],rt:=[4] })],gho:=[],ctx:=[(90,C90),(106,C106),(146,C146),(147,C147)] }
@[simp] theorem g119_s:type_of% (cfg_s (g:=g119) rfl):=cfg_s rfl
theorem w119 {vars h_} {y} (hp:zek vars h_=some y):∃ m,callo g119 0 119 [av .shr vars,av .shr h_] mem0=some (Res.res y,m):=by
 refine st0 [.tmp 4] Tryz.func119 ?_
 unfold zek at hp
 obtain ⟨y_1,h_2,hp⟩:=zab hp
 have c_3:=zoz h_2
 simp at c_3
 simp [Tryz.f119,c_3]
 rcases zad hp with ⟨h_4,hp⟩|⟨h_4,hp⟩
 ·try simp at h_4
  try simp [h_4]
  rcases zad hp with ⟨h_5,hp⟩|⟨h_5,hp⟩
  ·try simp at h_5
   cases hp
   simp [Goal,FnEnd,h_4,h_5]
  ·try simp at h_5
   try simp [h_4,h_5]
   rcases zad hp with ⟨h_6,hp⟩|⟨h_6,hp⟩
   ·try simp at h_6
    cases hp
    simp [Goal,FnEnd,h_4,h_5,h_6]
   ·try simp at h_6
    obtain ⟨y_7,h_8,hp⟩:=zab hp
    have c_9:=C106_eq h_8
    simp at c_9
    try simp [h_4,h_5,h_6,c_9]
    rcases zad hp with ⟨h_10,hp⟩|⟨h_10,hp⟩
    ·try simp at h_10
     obtain ⟨y_11,h_12,hp⟩:=zab hp
     have c_13:=C146_eq h_12
     simp at c_13
     try simp [h_4,h_5,h_6,h_10,c_13]
     rcases zad hp with ⟨h_14,hp⟩|⟨h_14,hp⟩
     ·try simp at h_14
      cases hp
      simp [Goal,FnEnd,h_4,h_5,h_6,h_10,h_14]
     ·try simp at h_14
      obtain ⟨y_15,h_16,hp⟩:=zab hp
      have c_17:=C147_eq h_16
      simp at c_17
      try simp [h_4,h_5,h_6,h_10,h_14,c_17]
      obtain ⟨r_32,h_33,hp⟩:=zab hp
      obtain ⟨I_20,I_20_⟩:=exV fun (s_18:Int) (σ:St)=>(σ.env 3=uP (1,3)∧σ.env 5=uL .own y_15∧σ.env 35=uL .bor y_15∧σ.env 36=uI (y_15.length:Int)∧σ.env 37=uI s_18∧σ.mem (1,3)=some [cL .shr h_.vars,cL .shr h_.next])∧NoBox [(1,3)] σ.mem
      obtain ⟨X_21,X_21_⟩:=exV fun (r_32:(Unit) ⊕ (Unit)) (out:Out)=>Sum.elim (fun r_32=>∃ σ:St,out=.ret σ∧(σ.env 4=uB false∧σ.mem (1,3)=some [cL .shr h_.vars,cL .shr h_.next])∧NoBox [(1,3)] σ.mem) (fun r_32=>∃ σ:St,out=.exit 0 σ∧(σ.env 3=uP (1,3)∧σ.env 5=uL .own y_15∧σ.mem (1,3)=some [cL .shr h_.vars,cL .shr h_.next])∧NoBox [(1,3)] σ.mem) r_32
      refine loopP ({ hd:=[3,5,35,36,37],bx:=[],ex:=[3,5],rt:=[4] }) I_20 X_21 h_33 (by exact rfl) ?_ ?_ ?_
      ·rw [I_20_]
       exact ⟨by simp [zac,zaa,h_4,h_5,h_6,h_10,h_14],NoBox.restrict (by intro k hk hb;simp at hk hb;simp [hk,hb,h_4,h_5,h_6,h_10,h_14])⟩
      ·intro s_18 σ_22 a_19 hI hp
       rw [I_20_] at hI
       obtain ⟨q_24,hn_23⟩:=hI
       try simp [h_4,h_5,h_6,h_10,h_14,q_24]
       rcases zad hp with ⟨h_25,hp⟩|⟨h_25,hp⟩
       ·try simp at h_25
        obtain ⟨e_26,h_27,hp⟩:=zab hp
        have b_28:=at_lo h_27
        have b_29:=at_hi h_27
        try simp at b_28 b_29
        have c_30:=seg_at' h_27 0 1 (by decide) (ds:=[.sc (.int .i64 e_26)]) rfl
        try simp at c_30
        try simp [h_4,h_5,h_6,h_10,h_14,q_24,h_25,b_28,b_29,c_30]
        rcases zad hp with ⟨h_31,hp⟩|⟨h_31,hp⟩
        ·try simp at h_31
         cases hp
         try simp [h_4,h_5,h_6,h_10,h_14,q_24,h_25,h_31]
         refine zal ?_
         rw [X_21_]
         exact ⟨_,rfl,by simp [zac,zaa,h_4,h_5,h_6,h_10,h_14,q_24,h_25,h_31],NoBox.restrict (by intro k hk hb;simp at hk hb;simp [hk,hb,h_4,h_5,h_6,h_10,h_14,q_24,h_25,h_31,hn_23 k (by simp [hk,hb])])⟩
        ·try simp at h_31
         cases hp
         try simp [h_4,h_5,h_6,h_10,h_14,q_24,h_25,h_31]
         refine zae ?_
         rw [I_20_]
         exact ⟨by simp [zac,zaa,h_4,h_5,h_6,h_10,h_14,q_24,h_25,h_31],NoBox.restrict (by intro k hk hb;simp at hk hb;simp [hk,hb,h_4,h_5,h_6,h_10,h_14,q_24,h_25,h_31,hn_23 k (by simp [hk,hb])])⟩
       ·try simp at h_25
        cases hp
        try simp [h_4,h_5,h_6,h_10,h_14,q_24,h_25]
        refine zag ?_
        rw [X_21_]
        exact ⟨_,rfl,by simp [zac,zaa,h_4,h_5,h_6,h_10,h_14,q_24,h_25],NoBox.restrict (by intro k hk hb;simp at hk hb;simp [hk,hb,h_4,h_5,h_6,h_10,h_14,q_24,h_25,hn_23 k (by simp [hk,hb])])⟩
      ·intro out hX
       rw [X_21_] at hX
       rcases r_32 with r_32 | r_32
       ·simp only [Sum.elim_inl,Sum.elim_inr] at hX hp
        obtain ⟨σ_34,rfl,q_36,hn_35⟩:=hX
        cases hp
        simp [Goal,FnEnd,h_4,h_5,h_6,h_10,h_14,q_36]
       ·simp only [Sum.elim_inl,Sum.elim_inr] at hX hp
        obtain ⟨σ_37,rfl,q_39,hn_38⟩:=hX
        cases hp
        simp [Goal,FnEnd,h_4,h_5,h_6,h_10,h_14,q_39]
    ·try simp at h_10
     cases hp
     simp [Goal,FnEnd,h_4,h_5,h_6,h_10]
 ·try simp at h_4
  cases hp
  simp [Goal,FnEnd,h_4]
theorem pc119:PC Tryz.prog 119 C119:=pc_of (g:=g119) (zai _ g119_s.2.1 ⟨pc90,pc106,pc146,pc147,trivial⟩) (ent Tryz.func119) fun x y h=>w119 h

def C120:List AV→Option AV:=specP (X:=THeap × Unit) fun x=>zda x.1
theorem C120_eq {h_} {y} (h:zda h_=some y):C120 [av .shr h_]=some (Res.res y):=zah (x:=(h_,())) h
def g120:Cfg:={ P:=Tryz.prog,take:=[],keep:=[],gho:=[],ctx:=[(95,C95)] }
@[simp] theorem g120_s:type_of% (cfg_s (g:=g120) rfl):=cfg_s rfl
theorem w120 {h_} {y} (hp:zda h_=some y):∃ m,callo g120 0 120 [av .shr h_] mem0=some (Res.res y,m):=by
 refine st0 [.cell 2 36] Tryz.func120 ?_
 unfold zda at hp
 obtain ⟨y_1,h_2,hp⟩:=zab hp
 have c_3:=C95_eq h_2
 simp at c_3
 obtain ⟨y_4,h_5,hp⟩:=zab hp
 have c_6:=C95_eq h_5
 simp at c_6
 cases hp
 simp [Tryz.f120,Goal,FnEnd,retR,rsrc,RSrc.val,nodupR,nodup,tupPart,c_3,c_6]
theorem pc120:PC Tryz.prog 120 C120:=pc_of (g:=g120) (zai _ g120_s.2.1 ⟨pc95,trivial⟩) (ent Tryz.func120) fun x y h=>w120 h

def C80:List AV→Option AV:=specP (X:=Int × Int × Unit) fun x=>zci x.1 x.2.1
theorem C80_eq {vars cells} {y} (h:zci vars cells=some y):C80 [av .shr vars,av .shr cells]=some (Res.res y):=zah (x:=(vars,cells,())) h
def g80:Cfg:={ P:=Tryz.prog,take:=[(80,48),(80,56)],keep:=[((80,5),{ hd:=[0,5,22,23],bx:=[11],ex:=[5],rt:=[4] }),((80,8),{ hd:=[0,5,6,22,23,28,29,30],bx:=[11],ex:=[0,5,22,23],rt:=[4] }),((80,11),{ hd:=[0,5,6,8,22,23,28,29,30,36,37,38],bx:=[11],ex:=[0,5,6,22,23,28,29,30],rt:=[4] })],gho:=[],ctx:=[(90,C90),(118,C118),(119,C119),(120,C120)] }
@[simp] theorem g80_s:type_of% (cfg_s (g:=g80) rfl):=cfg_s rfl
theorem w80 {vars cells} {y} (hp:zci vars cells=some y):∃ m,callo g80 0 80 [av .shr vars,av .shr cells] mem0=some (Res.res y,m):=by
 refine st0 [.tmp 4] Tryz.func80 ?_
 unfold zci at hp
 obtain ⟨y_1,h_2,hp⟩:=zab hp
 have c_3:=zoz h_2
 simp at c_3
 simp [Tryz.f80,c_3]
 rcases zad hp with ⟨h_4,hp⟩|⟨h_4,hp⟩
 ·try simp at h_4
  obtain ⟨y_5,h_6,hp⟩:=zab hp
  have c_7:=zoz h_6
  simp at c_7
  try simp [h_4,c_7]
  rcases zad hp with ⟨h_8,hp⟩|⟨h_8,hp⟩
  ·try simp at h_8
   try simp [h_4,h_8]
   obtain ⟨r_69,h_70,hp⟩:=zab hp
   obtain ⟨I_11,I_11_⟩:=exV fun (s_9:(List THeap) × Int) (σ:St)=>(σ.env 0=uI vars∧σ.env 5=uL .own s_9.1∧σ.env 22=uI (addI cells 1)∧σ.env 23=uI s_9.2)∧NoBox [] σ.mem
   obtain ⟨X_12,X_12_⟩:=exV fun (r_69:(List THeap)) (out:Out)=>∃ σ:St,out=.exit 0 σ∧σ.env 5=uL .own r_69∧NoBox [] σ.mem
   refine loopP ({ hd:=[0,5,22,23],bx:=[11],ex:=[5],rt:=[4] }) I_11 X_12 h_70 (by exact rfl) ?_ ?_ ?_
   ·rw [I_11_]
    exact ⟨by simp [zac,zaa,h_4,h_8],NoBox.restrict (by intro k hk hb;simp at hk hb;simp [hk,hb,h_4,h_8])⟩
   ·intro s_9 σ_13 a_10 hI hp
    rw [I_11_] at hI
    obtain ⟨q_15,hn_14⟩:=hI
    try simp [h_4,h_8,q_15]
    rcases zad hp with ⟨h_16,hp⟩|⟨h_16,hp⟩
    ·try simp at h_16
     obtain ⟨y_17,h_18,hp⟩:=zab hp
     have c_19:=C118_eq h_18
     simp at c_19
     try simp [h_4,h_8,q_15,h_16,c_19]
     obtain ⟨r_64,h_65,hp⟩:=zab hp
     obtain ⟨I_22,I_22_⟩:=exV fun (s_20:(List THeap) × Int) (σ:St)=>(σ.env 0=uI vars∧σ.env 5=uL .own s_20.1∧σ.env 6=uI s_9.2∧σ.env 22=uI (addI cells 1)∧σ.env 23=uI s_9.2∧σ.env 28=uL .own y_17∧σ.env 29=uI (y_17.length:Int)∧σ.env 30=uI s_20.2)∧NoBox [] σ.mem
     obtain ⟨X_23,X_23_⟩:=exV fun (r_64:(List THeap)) (out:Out)=>∃ σ:St,out=.exit 2 σ∧(σ.env 0=uI vars∧σ.env 5=uL .own r_64∧σ.env 22=uI (addI cells 1)∧σ.env 23=uI s_9.2)∧NoBox [] σ.mem
     refine loopP ({ hd:=[0,5,6,22,23,28,29,30],bx:=[11],ex:=[0,5,22,23],rt:=[4] }) I_22 X_23 h_65 (by exact rfl) ?_ ?_ ?_
     ·rw [I_22_]
      exact ⟨by simp [zac,zaa,h_4,h_8,q_15,h_16],NoBox.restrict (by intro k hk hb;simp at hk hb;simp [hk,hb,h_4,h_8,q_15,h_16,hn_14 k (by simp [hk,hb])])⟩
     ·intro s_20 σ_24 a_21 hI hp
      rw [I_22_] at hI
      obtain ⟨q_26,hn_25⟩:=hI
      try simp [h_4,h_8,h_16,q_26]
      rcases zad hp with ⟨h_27,hp⟩|⟨h_27,hp⟩
      ·try simp at h_27
       obtain ⟨e_28,h_29,hp⟩:=zab hp
       have b_30:=at_lo h_29
       have b_31:=at_hi h_29
       try simp at b_30 b_31
       have c_32:=seg_at' h_29 0 1 (by decide) (ds:=[.sl e_28.length (encL e_28)]) rfl
       try simp at c_32
       obtain ⟨y_33,h_34,hp⟩:=zab hp
       have c_35:=C118_eq h_34
       simp at c_35
       try simp [h_4,h_8,h_16,q_26,h_27,b_30,b_31,c_32,c_35]
       obtain ⟨r_59,h_60,hp⟩:=zab hp
       obtain ⟨I_38,I_38_⟩:=exV fun (s_36:(List THeap) × Int) (σ:St)=>(σ.env 0=uI vars∧σ.env 5=uL .own s_36.1∧σ.env 6=uI s_9.2∧σ.env 8=uL .bor e_28∧σ.env 22=uI (addI cells 1)∧σ.env 23=uI s_9.2∧σ.env 28=uL .own y_17∧σ.env 29=uI (y_17.length:Int)∧σ.env 30=uI s_20.2∧σ.env 36=uL .own y_33∧σ.env 37=uI (y_33.length:Int)∧σ.env 38=uI s_36.2)∧NoBox [] σ.mem
       obtain ⟨X_39,X_39_⟩:=exV fun (r_59:(List THeap)) (out:Out)=>∃ σ:St,out=.exit 4 σ∧(σ.env 0=uI vars∧σ.env 5=uL .own r_59∧σ.env 6=uI s_9.2∧σ.env 22=uI (addI cells 1)∧σ.env 23=uI s_9.2∧σ.env 28=uL .own y_17∧σ.env 29=uI (y_17.length:Int)∧σ.env 30=uI s_20.2)∧NoBox [] σ.mem
       refine loopP ({ hd:=[0,5,6,8,22,23,28,29,30,36,37,38],bx:=[11],ex:=[0,5,6,22,23,28,29,30],rt:=[4] }) I_38 X_39 h_60 (by exact rfl) ?_ ?_ ?_
       ·rw [I_38_]
        exact ⟨by simp [zac,zaa,h_4,h_8,h_16,q_26,h_27],NoBox.restrict (by intro k hk hb;simp at hk hb;simp [hk,hb,h_4,h_8,h_16,q_26,h_27,hn_25 k (by simp [hk,hb])])⟩
       ·intro s_36 σ_40 a_37 hI hp
        rw [I_38_] at hI
        obtain ⟨q_42,hn_41⟩:=hI
        try simp [h_4,h_8,h_16,h_27,q_42]
        rcases zad hp with ⟨h_43,hp⟩|⟨h_43,hp⟩
        ·try simp at h_43
         obtain ⟨e_44,h_45,hp⟩:=zab hp
         have b_46:=at_lo h_45
         have b_47:=at_hi h_45
         try simp at b_46 b_47
         have c_48:=seg_at' h_45 0 1 (by decide) (ds:=[.sl e_44.length (encL e_44)]) rfl
         try simp at c_48
         have n_49:=hn_41 (1,11) (by simp)
         obtain ⟨y_50,h_51,hp⟩:=zab hp
         have c_52:=C119_eq h_51
         simp at c_52
         try simp [h_4,h_8,h_16,h_27,q_42,h_43,b_46,b_47,c_48,n_49,c_52]
         rcases zad hp with ⟨h_53,hp⟩|⟨h_53,hp⟩
         ·try simp at h_53
          obtain ⟨y_54,h_55,hp⟩:=zab hp
          have c_56:=C120_eq h_55
          simp at c_56
          obtain ⟨_,h_57,hp⟩:=zab hp
          have b_58:=zap h_57
          try simp at b_58
          cases hp
          try simp [h_4,h_8,h_16,h_27,q_42,h_43,h_53,c_56,b_58]
          refine zae ?_
          rw [I_38_]
          exact ⟨by simp [zac,zaa,h_4,h_8,h_16,h_27,q_42,h_43,h_53,c_56,b_58],NoBox.restrict (by intro k hk hb;simp at hk hb;simp [hk,hb,h_4,h_8,h_16,h_27,q_42,h_43,h_53,c_56,b_58,hn_41 k (by simp [hk,hb])])⟩
         ·try simp at h_53
          cases hp
          try simp [h_4,h_8,h_16,h_27,q_42,h_43,h_53]
          refine zae ?_
          rw [I_38_]
          exact ⟨by simp [zac,zaa,h_4,h_8,h_16,h_27,q_42,h_43,h_53],NoBox.restrict (by intro k hk hb;simp at hk hb;simp [hk,hb,h_4,h_8,h_16,h_27,q_42,h_43,h_53,hn_41 k (by simp [hk,hb])])⟩
        ·try simp at h_43
         cases hp
         try simp [h_4,h_8,h_16,h_27,q_42,h_43]
         refine zag ?_
         rw [X_39_]
         exact ⟨_,rfl,by simp [zac,zaa,h_4,h_8,h_16,h_27,q_42,h_43],NoBox.restrict (by intro k hk hb;simp at hk hb;simp [hk,hb,h_4,h_8,h_16,h_27,q_42,h_43,hn_41 k (by simp [hk,hb])])⟩
       ·intro out hX
        rw [X_39_] at hX
        obtain ⟨σ_61,rfl,q_63,hn_62⟩:=hX
        cases hp
        try simp [h_4,h_8,h_16,h_27,q_63]
        refine zae ?_
        rw [I_22_]
        exact ⟨by simp [zac,zaa,h_4,h_8,h_16,h_27,q_63],NoBox.restrict (by intro k hk hb;simp at hk hb;simp [hk,hb,h_4,h_8,h_16,h_27,q_63,hn_62 k (by simp [hk,hb])])⟩
      ·try simp at h_27
       cases hp
       try simp [h_4,h_8,h_16,q_26,h_27]
       refine zag ?_
       rw [X_23_]
       exact ⟨_,rfl,by simp [zac,zaa,h_4,h_8,h_16,q_26,h_27],NoBox.restrict (by intro k hk hb;simp at hk hb;simp [hk,hb,h_4,h_8,h_16,q_26,h_27,hn_25 k (by simp [hk,hb])])⟩
     ·intro out hX
      rw [X_23_] at hX
      obtain ⟨σ_66,rfl,q_68,hn_67⟩:=hX
      cases hp
      try simp [h_4,h_8,h_16,q_68]
      refine zae ?_
      rw [I_11_]
      exact ⟨by simp [zac,zaa,h_4,h_8,h_16,q_68],NoBox.restrict (by intro k hk hb;simp at hk hb;simp [hk,hb,h_4,h_8,h_16,q_68,hn_67 k (by simp [hk,hb])])⟩
    ·try simp at h_16
     cases hp
     try simp [h_4,h_8,q_15,h_16]
     refine zag ?_
     rw [X_12_]
     exact ⟨_,rfl,by simp [zac,zaa,h_4,h_8,q_15,h_16],NoBox.restrict (by intro k hk hb;simp at hk hb;simp [hk,hb,h_4,h_8,q_15,h_16,hn_14 k (by simp [hk,hb])])⟩
   ·intro out hX
    rw [X_12_] at hX
    obtain ⟨σ_71,rfl,q_73,hn_72⟩:=hX
    cases hp
    simp [Goal,FnEnd,h_4,h_8,q_73]
  ·try simp at h_8
   cases hp
   simp [Goal,FnEnd,h_4,h_8]
 ·try simp at h_4
  cases hp
  simp [Goal,FnEnd,h_4]
theorem pc80:PC Tryz.prog 80 C80:=pc_of (g:=g80) (zai _ g80_s.2.1 ⟨pc90,pc118,pc119,pc120,trivial⟩) (ent Tryz.func80) fun x y h=>w80 h

abbrev G38 (g:Cfg):Prop:=Has Tryz.prog g 38 Tryz.f38 [18,22,23,27] [(3,{ hd:=[2,7,13,14,15],bx:=[9],ex:=[7],rt:=[6] })] [(80,C80)] [(2000002,[.thaw (.sl 13 0) 13 2])]
theorem wI38 {g:Cfg} (G:G38 g) {d:Nat} {mem:Mem} (hT:Tight d mem) (hB:∀ x,(mem x).map (List.map C.killB)=mem x)  {vars:Int} {cells:Int} {accept:(THeap→Option (Bool))} {fk_accept:Nat} {caps_accept:List (Key × Nat)} (hl_accept:∀ c∈caps_accept,c.1.1≤d) (hc_accept:Clo g d mem fk_accept caps_accept fun x:THeap × Unit=>accept x.1) {y} (hp:zgt vars cells accept=some y):callo g d 38 [av .shr vars,av .shr cells,.one (.fn fk_accept caps_accept)] mem=some (Res.res y,mem):=by
 have gP:=G.P;have gt:=G.tk;have gr:=G.ro;have gg:=G.gh
 have k_3:=G.kp (3,{ hd:=[2,7,13,14,15],bx:=[9],ex:=[7],rt:=[6] }) (by simp)
 have c_80:=G.cs (80,C80) (by simp)
 have hT2:memKill (fun k=>decide (d < k.1)) mem=mem:=hT
 have hm0:∀ t,mem (d+1,t)=none:=fun t=>hT.none (by simp)
 refine zgr (Tryz.f38.body.getD .skip) [.tmp 6] G Tryz.func38 (by kernel_rfl) (by simp [Tryz.ntmps38]) rfl ?_
 unfold zgt at hp
 obtain ⟨y_1,h_2,hp⟩:=zab hp
 have c_3:=C80_eq h_2
 simp at c_3
 simp [Tryz.f38,gP,gt,gr,gg,hm0,c_80,hB,c_3]
 try simp [gP,gt,gr,gg,hm0,c_80,hB]
 obtain ⟨r_29,h_30,hp⟩:=zab hp
 obtain ⟨I_6,I_6_⟩:=exV fun (s_4:(List THeap) × Int × Int) (σ:St)=>(σ.env 7=uL .own s_4.1∧σ.env 13=.one (.bs (d+1,13) y_1.length 2)∧σ.env 14=uI (y_1.length:Int)∧σ.env 15=uI s_4.2.1∧σ.mem (d+1,13)=some (deadC y_1 s_4.2.2))∧σ.env 2=.one (.fn fk_accept caps_accept)∧Tight (d+1) σ.mem∧Agree d mem σ.mem∧NoBoxD d [(d+1,13)] σ.mem
 obtain ⟨X_7,X_7_⟩:=exV fun (r_29:(List THeap) × Int) (out:Out)=>∃ σ:St,out=.exit 0 σ∧(σ.env 7=uL .own r_29.1∧σ.mem (d+1,13)=some (deadC y_1 r_29.2))∧Tight (d+1) σ.mem∧Agree d mem σ.mem∧NoBoxD d [(d+1,13)] σ.mem
 refine loopP ({ hd:=[2,7,13,14,15],bx:=[9],ex:=[7],rt:=[6] }) I_6 X_7 h_30 (by exact k_3) ?_ ?_ ?_
 ·rw [I_6_]
  exact ⟨by simp [zac,zaa,gP,gt,gr,gg,hm0,c_80,hB],by simp [zac,gP,gt,gr,gg,hm0,c_80,hB] <;> first | (intro x x1 x2 hx;have h0:=hl_accept _ hx;simp at h0;omega) | (intro x hx;have h0:=hl_accept _ hx;simp at h0;omega),(by repeat (first | exact zan _ | exact hT.up | exact hT | refine Tight.restrict ?_ | refine Tight.upd ?_ (by simp) (by simp) | refine Tight.killB ?_ | refine zar ?_)),(by repeat (first | exact fun k hk=>rfl | refine Agree.restrict hT ?_ | refine Agree.upd ?_ (by simp))),NoBoxD.restrict (by intro k hd hk hb;simp at hk hb;simp [hk,hb,gP,gt,gr,gg,hm0,c_80,hB,hT.none hd])⟩
 ·intro s_4 σ_8 a_5 hI hp
  rw [I_6_] at hI
  obtain ⟨q_13,q_9,ht_10,ha_11,hn_12⟩:=hI
  try simp [gP,gt,gr,gg,hm0,c_80,hB,q_13,q_9]
  rcases zad hp with ⟨h_14,hp⟩|⟨h_14,hp⟩
  ·try simp at h_14
   obtain ⟨e_15,h_16,hp⟩:=zab hp
   have b_17:=at_lo h_16
   have b_18:=at_hi h_16
   try simp at b_17 b_18
   obtain ⟨_,h_19,hp⟩:=zab hp
   have h_20:=zjp h_19
   have c_21:=zkx h_16 h_20 0 2 rfl rfl (cs:=[(cL .own e_15.vars),(cL .own e_15.next)]) rfl
   try simp at c_21
   have c_22:=zhg h_16 h_20 0 rfl (cs:=[C.dead,C.dead]) rfl
   try simp at c_22
   have n_23:=hn_12 (d+1,9) (by simp) (by simp)
   obtain ⟨y_24,h_25,hp⟩:=zab hp
   try simp [gP,gt,gr,gg,hm0,c_80,hB,q_13,q_9,h_14,b_17,b_18,c_21,c_22,n_23]
   refine zez ([av .bor e_15] ++ capsAV caps_accept) (Res.res y_24) (by simp [capsAV,gP,gt,gr,gg,hm0,c_80,hB,q_13,q_9,h_14]) (hc_accept _ _ _ (e_15,()) _ (Nat.le_succ d) (by repeat (first | exact ha_11 | exact fun k hk=>rfl | refine Agree.upd ?_ (by simp))) (by repeat (first | exact ht_10 | exact zan _ | exact hT.up | exact hT | (simp only [q_13,q_9];done) | refine Tight.upd ?_ (by simp) (by simp) | refine Tight.killB ?_ | refine zar ?_)) ⟨_,_,(.inr rfl),rfl,rfl⟩ h_25) ?_
   try simp [gP,gt,gr,gg,hm0,c_80,hB,q_13,q_9,h_14]
   rcases zad hp with ⟨h_26,hp⟩|⟨h_26,hp⟩
   ·try simp at h_26
    obtain ⟨_,h_27,hp⟩:=zab hp
    have b_28:=zap h_27
    try simp at b_28
    cases hp
    try simp [gP,gt,gr,gg,hm0,c_80,hB,q_13,q_9,h_14,h_26,b_28]
    refine zae ?_
    rw [I_6_]
    exact ⟨by simp [zac,zaa,gP,gt,gr,gg,hm0,c_80,hB,q_13,q_9,h_14,h_26,b_28],by simp [zac,gP,gt,gr,gg,hm0,c_80,hB,q_13,q_9,h_14,h_26,b_28] <;> first | (intro x x1 x2 hx;have h0:=hl_accept _ hx;simp at h0;omega) | (intro x hx;have h0:=hl_accept _ hx;simp at h0;omega),(by repeat (first | exact ht_10 | exact zan _ | exact hT.up | exact hT | refine Tight.restrict ?_ | refine Tight.upd ?_ (by simp) (by simp) | refine Tight.killB ?_ | refine zar ?_)),(by repeat (first | exact ha_11 | exact fun k hk=>rfl | refine Agree.restrict hT ?_ | refine Agree.upd ?_ (by simp))),NoBoxD.restrict (by intro k hd hk hb;simp at hk hb;simp [hk,hb,gP,gt,gr,gg,hm0,c_80,hB,q_13,q_9,h_14,h_26,b_28,hn_12 k hd (by simp [hk,hb])])⟩
   ·try simp at h_26
    cases hp
    try simp [gP,gt,gr,gg,hm0,c_80,hB,q_13,q_9,h_14,h_26]
    refine zae ?_
    rw [I_6_]
    exact ⟨by simp [zac,zaa,gP,gt,gr,gg,hm0,c_80,hB,q_13,q_9,h_14,h_26],by simp [zac,gP,gt,gr,gg,hm0,c_80,hB,q_13,q_9,h_14,h_26] <;> first | (intro x x1 x2 hx;have h0:=hl_accept _ hx;simp at h0;omega) | (intro x hx;have h0:=hl_accept _ hx;simp at h0;omega),(by repeat (first | exact ht_10 | exact zan _ | exact hT.up | exact hT | refine Tight.restrict ?_ | refine Tight.upd ?_ (by simp) (by simp) | refine Tight.killB ?_ | refine zar ?_)),(by repeat (first | exact ha_11 | exact fun k hk=>rfl | refine Agree.restrict hT ?_ | refine Agree.upd ?_ (by simp))),NoBoxD.restrict (by intro k hd hk hb;simp at hk hb;simp [hk,hb,gP,gt,gr,gg,hm0,c_80,hB,q_13,q_9,h_14,h_26,hn_12 k hd (by simp [hk,hb])])⟩
  ·try simp at h_14
   cases hp
   try simp [gP,gt,gr,gg,hm0,c_80,hB,q_13,q_9,h_14]
   refine zag ?_
   rw [X_7_]
   exact ⟨_,rfl,by simp [zac,zaa,gP,gt,gr,gg,hm0,c_80,hB,q_13,q_9,h_14],(by repeat (first | exact ht_10 | exact zan _ | exact hT.up | exact hT | refine Tight.restrict ?_ | refine Tight.upd ?_ (by simp) (by simp) | refine Tight.killB ?_ | refine zar ?_)),(by repeat (first | exact ha_11 | exact fun k hk=>rfl | refine Agree.restrict hT ?_ | refine Agree.upd ?_ (by simp))),NoBoxD.restrict (by intro k hd hk hb;simp at hk hb;simp [hk,hb,gP,gt,gr,gg,hm0,c_80,hB,q_13,q_9,h_14,hn_12 k hd (by simp [hk,hb])])⟩
 ·intro out hX
  rw [X_7_] at hX
  obtain ⟨σ_31,rfl,q_35,ht_32,ha_33,hn_34⟩:=hX
  cases hp
  simp [Goal,FnEndI,zax,gP,gt,gr,gg,hm0,c_80,hB,q_35,zje ha_33 hT]

abbrev G39 (g:Cfg):Prop:=Has Tryz.prog g 39 Tryz.f39 [] [] [(40,C40)] []
theorem wI39 {g:Cfg} (G:G39 g) {d:Nat} {mem:Mem} (hT:Tight d mem) {K_1:Key} {h_:THeap} {c0:(List TStructure)} {m_0:Md} (hm_0:LentM m_0) {mk_1:Md} (hk_1:K_1.1≤d) (hb_1:mem K_1=some [cL mk_1 c0]) {y} (hp:zds h_ c0=some y):callo g d 39 [av m_0 h_,.one (.ptr K_1 0)] mem=some (Res.res y,mem):=by
 have gP:=G.P;have gt:=G.tk;have gr:=G.ro;have gg:=G.gh
 have c_40:=G.cs (40,C40) (by simp)
 have hT2:memKill (fun k=>decide (d < k.1)) mem=mem:=hT
 have hm0:∀ t,mem (d+1,t)=none:=fun t=>hT.none (by simp)
 have nk_1:∀ t,(K_1=(d+1,t))=False:=fun t=>by simp;intro h;rw [h] at hk_1;simp at hk_1;omega
 refine zgr (Tryz.f39.body.getD .skip) [.tmp 3] G Tryz.func39 (by kernel_rfl) (by simp [Tryz.ntmps39]) rfl ?_
 unfold zds at hp
 obtain ⟨y_1,h_2,hp⟩:=zab hp
 have c_3:=C40_eq h_2
 simp at c_3
 cases hp
 simp [Tryz.f39,Goal,FnEndI,zax,gP,gt,gr,gg,hm0,c_40,hm_0.copy,hm_0.elem,hb_1,nk_1,c_3,hT2]

def C7:List AV→Option AV:=specP (X:=Int × (List TStructure) × Int × Unit) fun x=>zbn x.1 x.2.1 x.2.2.1
theorem C7_eq {vars set cells} {y} (h:zbn vars set cells=some y):C7 [av .shr vars,av .shr set,av .shr cells]=some (Res.res y):=zah (x:=(vars,set,cells,())) h
def g7:Cfg:={ P:=Tryz.prog,take:=[(38,18),(38,22),(38,23),(38,27)],keep:=[((38,3),{ hd:=[2,7,13,14,15],bx:=[9],ex:=[7],rt:=[6] })],gho:=[((38,2000002),[.thaw (.sl 13 0) 13 2])],ctx:=[(40,C40),(80,C80)] }
@[simp] theorem g7_s:type_of% (cfg_s (g:=g7) rfl):=cfg_s rfl
theorem w7 {vars set cells} {y} (hp:zbn vars set cells=some y):∃ m,callo g7 0 7 [av .shr vars,av .shr set,av .shr cells] mem0=some (Res.res y,m):=by
 have G_38:G38 g7:=⟨rfl,by kernel_rfl,rfl,fun t=>by simp,noAway (fun t=>by simp) (by simp) (fun t=>by simp),by simp [lookN],fun i=>by simp [lookK],by simp [g7,lookK],by simp⟩
 have G_39:G39 g7:=⟨rfl,by kernel_rfl,rfl,fun t=>by simp,noAway (fun t=>by simp) (by simp) (fun t=>by simp),by simp [lookN],fun i=>by simp [lookK],by simp [g7,lookK],by simp⟩
 refine st0 [.tmp 6] Tryz.func7 ?_
 unfold zbn at hp
 obtain ⟨y_1,h_2,hp⟩:=zab hp
 simp [Tryz.f7]
 refine zez [av .shr vars,av .shr cells,.one (.fn 39 [((1,4),0)])] (Res.res y_1) (by simp) (wI38 G_38 (by repeat (first | exact zan _ | exact hT.up | exact hT | (simp only [true_and];done) | refine Tight.upd ?_ (by simp) (by simp) | refine Tight.killB ?_ | refine zar ?_)) (fun x=>by simp only [upd_get,mem0];(repeat' split) <;> simp_all) (by simp) (clo1 (p:=fun x0=>zds x0 set) fun d2 mem2 m0 x0 r2 hd2 ha2 hT2 hm0 hr2=>wI39 (mk_1:=.shr) G_39 hT2 hm0 (show 1≤d2 from hd2) ((ha2 _ (Nat.le_refl _)).trans (by simp)) hr2) h_2) ?_
 cases hp
 simp [Goal,FnEnd]
theorem pc7:PC Tryz.prog 7 C7:=pc_of (g:=g7) (zai _ g7_s.2.1 ⟨pc40,pc80,trivial⟩) (ent Tryz.func7) fun x y h=>w7 h

def C8:List AV→Option AV:=specPS (X:=(List U8) × Unit) fun x=>zcf x.1
theorem C8_eq {code} {y} (h:zcf code=some y):C8 [av .shr code]=some ((Res.res y).toS):=znh (x:=(code,())) h
def g8:Cfg:={ P:=Tryz.prog,take:=[],keep:=[],gho:=[],ctx:=[],give:=[(8,6)],bctx:=[(35,C35)],pctx:=[(36,C36)] }
@[simp] theorem g8_s:type_of% (cfg_s (g:=g8) rfl):=cfg_s rfl
theorem g8_x36:PxOK g8 36 C36:=⟨rfl,rfl,Tryz.f36,Tryz.f36.body.getD .skip,Tryz.func36,by kernel_rfl⟩
theorem w8 {code} {y} (hp:zcf code=some y):∃ m,callo g8 0 8 [av .shr code] mem0=some ((Res.res y).toS,m):=by
 refine st0 [.tmp 2,.cell 3 32] Tryz.func8 ?_
 unfold zcf at hp
 obtain ⟨y_1,h_2,hp⟩:=zab hp
 simp [Tryz.f8]
 refine zqz (1,5000006) (C35_eq h_2) (by rfl) (by rfl) (by simp) (by simp) (by rfl) (by simp [mem0]) ?_
 obtain ⟨y_3,h_4,hp⟩:=zab hp
 try simp
 refine zbt (1,5000006) (C36_eq h_4) g8_x36 (by simp) (by simp) (by simp) (.inr (by decide)) ?_
 obtain ⟨e_5,h_6,hp⟩:=zab hp
 have b_8:=at_hi h_6
 try simp at b_8
 have c_9:=seg_at' h_6 0 2 (by decide) (ds:=[.sl e_5.nodes.length (encL e_5.nodes),.sl e_5.next.length (encL e_5.next)]) rfl
 try simp at c_9
 cases hp
 simp [Goal,FnEnd,retR,rsrc,RSrc.val,nodupR,nodup,tupPart,b_8,c_9]
theorem pc8:PC Tryz.prog 8 C8:=pc_ofS (g:=g8) (zhr [] rfl trivial [] rfl trivial [(35,C35)] rfl ⟨bc35,trivial⟩ [(36,C36)] rfl ⟨px36,trivial⟩) (ent Tryz.func8) fun x y h=>w8 h

def C9:List AV→Option AV:=specP (X:=Int × TStructure × Unit) fun x=>zei x.1 x.2.1
theorem C9_eq {vars s} {y} (h:zei vars s=some y):C9 [av .shr vars,av .shr s]=some (Res.res y):=zah (x:=(vars,s,())) h
def g9:Cfg:={ P:=Tryz.prog,take:=[(9,17)],keep:=[],gho:=[((9,2000001),[.thaw (.sl 6 0) 6 2])],ctx:=[(7,C7)] }
@[simp] theorem g9_s:type_of% (cfg_s (g:=g9) rfl):=cfg_s rfl
theorem w9 {vars s} {y} (hp:zei vars s=some y):∃ m,callo g9 0 9 [av .shr vars,av .shr s] mem0=some (Res.res y,m):=by
 refine st0 [.cell 4 36,.tmp 5] Tryz.func9 ?_
 unfold zei at hp
 obtain ⟨y_1,h_2,hp⟩:=zab hp
 have c_3:=C7_eq h_2
 simp at c_3
 simp [Tryz.f9,c_3]
 try simp
 rcases zad hp with ⟨h_4,hp⟩|⟨h_4,hp⟩
 ·try simp at h_4
  cases hp
  simp [Goal,FnEnd,retR,rsrc,RSrc.val,nodupR,nodup,tupPart,h_4]
 ·try simp at h_4
  obtain ⟨e_5,h_6,hp⟩:=zab hp
  have b_7:=at_lo h_6
  have b_8:=at_hi h_6
  try simp at b_7 b_8
  obtain ⟨_,h_9,hp⟩:=zab hp
  have h_10:=zjp h_9
  have c_11:=zkx h_6 h_10 0 2 rfl rfl (cs:=[(cL .own e_5.vars),(cL .own e_5.next)]) rfl
  try simp at c_11
  have c_12:=zhg h_6 h_10 0 rfl (cs:=[C.dead,C.dead]) rfl
  try simp at c_12
  cases hp
  simp [Goal,FnEnd,retR,rsrc,RSrc.val,nodupR,nodup,tupPart,h_4,b_7,b_8,c_11,c_12]
theorem pc9:PC Tryz.prog 9 C9:=pc_of (g:=g9) (zai _ g9_s.2.1 ⟨pc7,trivial⟩) (ent Tryz.func9) fun x y h=>w9 h

abbrev G83 (g:Cfg):Prop:=Has Tryz.prog g 83 Tryz.f83 [29,39] [(9,{ hd:=[1,5,6,7,8],bx:=[],ex:=[1,5,6,7],rt:=[4] }),(6,{ hd:=[1,5,6,7],bx:=[],ex:=[5],rt:=[4] })] [] []
theorem wI83 {g:Cfg} (G:G83 g) (fu:Nat):∀ {d:Nat} {mem:Mem} (hT:Tight d mem)  {n_:Int} {most:Int}  {y} (hp:fixN zcc fu (n_,most,())=some y),callo g d 83 [av .shr n_,av .shr most] mem=some (Res.res y,mem):=by
 have gP:=G.P;have gt:=G.tk;have gr:=G.ro;have gg:=G.gh
 have i_83:=G.no
 have k_9:=G.kp (9,{ hd:=[1,5,6,7,8],bx:=[],ex:=[1,5,6,7],rt:=[4] }) (by simp)
 have k_6:=G.kp (6,{ hd:=[1,5,6,7],bx:=[],ex:=[5],rt:=[4] }) (by simp)
 induction fu with
 | zero=>intros;exact absurd ‹fixN _ 0 _=some _› (by simp [fixN])
 | succ fu ih =>
  intro d mem hT n_ most y hp
  have hT2:memKill (fun k=>decide (d < k.1)) mem=mem:=hT
  refine zgr (Tryz.f83.body.getD .skip) [.tmp 4] G Tryz.func83 (by kernel_rfl) (by simp [Tryz.ntmps83]) rfl ?_
  replace hp:zel (fun n_ most=>fixN zcc fu (n_,most,())) n_ most=some y:=hp
  unfold zel at hp
  simp [Tryz.f83,gP,gt,gr,gg,i_83]
  rcases zad hp with ⟨h_1,hp⟩|⟨h_1,hp⟩
  ·try simp at h_1
   cases hp
   simp [Goal,FnEndI,zax,gP,gt,gr,gg,i_83,h_1,hT2]
  ·try simp at h_1
   obtain ⟨y_2,h_3,hp⟩:=zab hp
   try simp [gP,gt,gr,gg,i_83,h_1]
   refine zez [av .shr (subI n_ 1),av .shr most] (Res.res y_2) (by simp [gP,gt,gr,gg,i_83,h_1]) (ih (by repeat (first | exact zan _ | exact hT.up | exact hT | (simp only [true_and];done) | refine Tight.upd ?_ (by simp) (by simp) | refine Tight.killB ?_ | refine zar ?_)) h_3) ?_
   try simp [gP,gt,gr,gg,i_83,h_1]
   obtain ⟨r_34,h_35,hp⟩:=zab hp
   obtain ⟨I_6,I_6_⟩:=exV fun (s_4:(List (List Int)) × Int) (σ:St)=>(σ.env 1=uI most∧σ.env 5=uL .own s_4.1∧σ.env 6=uL .own y_2∧σ.env 7=uI s_4.2)∧σ.mem=mem
   obtain ⟨X_7,X_7_⟩:=exV fun (r_34:(List (List Int))) (out:Out)=>∃ σ:St,out=.exit 0 σ∧σ.env 5=uL .own r_34∧σ.mem=mem
   refine loopP ({ hd:=[1,5,6,7],bx:=[],ex:=[5],rt:=[4] }) I_6 X_7 h_35 (by exact k_6) ?_ ?_ ?_
   ·rw [I_6_]
    exact ⟨by simp [zac,zaa,gP,gt,gr,gg,i_83,h_1],by simp [zaa,gP,gt,gr,gg,i_83,h_1]⟩
   ·intro s_4 σ_8 a_5 hI hp
    rw [I_6_] at hI
    obtain ⟨q_10,q_9⟩:=hI
    try simp [gP,gt,gr,gg,i_83,h_1,q_10,q_9]
    rcases zad hp with ⟨h_11,hp⟩|⟨h_11,hp⟩
    ·try simp at h_11
     try simp [gP,gt,gr,gg,i_83,h_1,q_10,q_9,h_11]
     obtain ⟨r_29,h_30,hp⟩:=zab hp
     obtain ⟨I_14,I_14_⟩:=exV fun (s_12:(List (List Int)) × Int) (σ:St)=>(σ.env 1=uI most∧σ.env 5=uL .own s_12.1∧σ.env 6=uL .own y_2∧σ.env 7=uI s_4.2∧σ.env 8=uI s_12.2)∧σ.mem=mem
     obtain ⟨X_15,X_15_⟩:=exV fun (r_29:(List (List Int))) (out:Out)=>∃ σ:St,out=.exit 2 σ∧(σ.env 1=uI most∧σ.env 5=uL .own r_29∧σ.env 6=uL .own y_2∧σ.env 7=uI s_4.2)∧σ.mem=mem
     refine loopP ({ hd:=[1,5,6,7,8],bx:=[],ex:=[1,5,6,7],rt:=[4] }) I_14 X_15 h_30 (by exact k_9) ?_ ?_ ?_
     ·rw [I_14_]
      exact ⟨by simp [zac,zaa,gP,gt,gr,gg,i_83,h_1,q_10,q_9,h_11],by simp [zaa,gP,gt,gr,gg,i_83,h_1,q_10,q_9,h_11]⟩
     ·intro s_12 σ_16 a_13 hI hp
      rw [I_14_] at hI
      obtain ⟨q_18,q_17⟩:=hI
      try simp [gP,gt,gr,gg,i_83,h_1,h_11,q_18,q_17]
      rcases zad hp with ⟨h_19,hp⟩|⟨h_19,hp⟩
      ·try simp at h_19
       obtain ⟨e_20,h_21,hp⟩:=zab hp
       have b_22:=at_lo h_21
       have b_23:=at_hi h_21
       try simp at b_22 b_23
       have c_24:=seg_at' h_21 0 1 (by decide) (ds:=[.sl e_20.length (encL e_20)]) rfl
       try simp at c_24
       obtain ⟨_,h_25,hp⟩:=zab hp
       have b_26:=zap h_25
       try simp at b_26
       obtain ⟨_,h_27,hp⟩:=zab hp
       have b_28:=zap h_27
       try simp at b_28
       cases hp
       try simp [gP,gt,gr,gg,i_83,h_1,h_11,q_18,q_17,h_19,b_22,b_23,c_24,b_26,b_28]
       refine zae ?_
       rw [I_14_]
       exact ⟨by simp [zac,zaa,gP,gt,gr,gg,i_83,h_1,h_11,q_18,q_17,h_19,b_22,b_23,c_24,b_26,b_28],by simp [zaa,gP,gt,gr,gg,i_83,h_1,h_11,q_18,q_17,h_19,b_22,b_23,c_24,b_26,b_28]⟩
      ·try simp at h_19
       cases hp
       try simp [gP,gt,gr,gg,i_83,h_1,h_11,q_18,q_17,h_19]
       refine zag ?_
       rw [X_15_]
       exact ⟨_,rfl,by simp [zac,zaa,gP,gt,gr,gg,i_83,h_1,h_11,q_18,q_17,h_19],by simp [zaa,gP,gt,gr,gg,i_83,h_1,h_11,q_18,q_17,h_19]⟩
     ·intro out hX
      rw [X_15_] at hX
      obtain ⟨σ_31,rfl,q_33,q_32⟩:=hX
      cases hp
      try simp [gP,gt,gr,gg,i_83,h_1,h_11,q_33,q_32]
      refine zae ?_
      rw [I_6_]
      exact ⟨by simp [zac,zaa,gP,gt,gr,gg,i_83,h_1,h_11,q_33,q_32],by simp [zaa,gP,gt,gr,gg,i_83,h_1,h_11,q_33,q_32]⟩
    ·try simp at h_11
     cases hp
     try simp [gP,gt,gr,gg,i_83,h_1,q_10,q_9,h_11]
     refine zag ?_
     rw [X_7_]
     exact ⟨_,rfl,by simp [zac,zaa,gP,gt,gr,gg,i_83,h_1,q_10,q_9,h_11],by simp [zaa,gP,gt,gr,gg,i_83,h_1,q_10,q_9,h_11]⟩
   ·intro out hX
    rw [X_7_] at hX
    obtain ⟨σ_36,rfl,q_38,q_37⟩:=hX
    cases hp
    simp [Goal,FnEndI,zax,gP,gt,gr,gg,i_83,h_1,q_38,q_37,hT2]

def C83:List AV→Option AV:=specP (X:=Int × Int × Unit) fun x=>zdk x.1 x.2.1
theorem C83_eq {n_ most} {y} (h:zdk n_ most=some y):C83 [av .shr n_,av .shr most]=some (Res.res y):=zah (X:=Int × Int × Unit) (F:=fun x=>zdk x.1 x.2.1) (x:=(n_,most,())) h
def g83:Cfg:={ P:=Tryz.prog,take:=[(83,29),(83,39)],keep:=[((83,6),{ hd:=[1,5,6,7],bx:=[],ex:=[5],rt:=[4] }),((83,9),{ hd:=[1,5,6,7,8],bx:=[],ex:=[1,5,6,7],rt:=[4] })],gho:=[],ctx:=[] }
@[simp] theorem g83_P:g83.P=Tryz.prog:=rfl
@[simp] theorem g83_t:g83.take=[(83,29),(83,39)]:=rfl
@[simp] theorem g83_g:g83.gho=[]:=rfl
@[simp] theorem g83_r:g83.ro=[]:=rfl
@[simp] theorem g83_w:g83.away=[]∧g83.give=[]∧g83.octx=[]:=by rw [g83];exact ⟨rfl,rfl,rfl⟩
theorem w83 {n_ most} {y} (hp:zdk n_ most=some y):∃ m,callo g83 0 83 [av .shr n_,av .shr most] mem0=some (Res.res y,m):=by
 have G_83:G83 g83:=⟨rfl,by kernel_rfl,rfl,fun t=>by simp,noAway (fun t=>by simp) (by simp) (fun t=>by simp),by simp [lookN],fun i=>by simp [lookK],by simp [g83,lookK],by simp⟩
 exact ⟨_,wI83 G_83 _ (zan 0)  (zok hp).choose_spec⟩
theorem pc83:PC Tryz.prog 83 C83:=pc_of (g:=g83) (zai [] rfl trivial) ⟨Tryz.f83,Tryz.func83,by kernel_rfl,by kernel_rfl⟩ fun x y h=>w83 h

def C76:List AV→Option AV:=specP (X:=THeap × Unit) fun x=>zeb x.1
theorem C76_eq {h_} {y} (h:zeb h_=some y):C76 [av .shr h_]=some (Res.res y):=zah (x:=(h_,())) h
def g76:Cfg:={ P:=Tryz.prog,take:=[],keep:=[((76,2),{ hd:=[1,3],bx:=[],ex:=[],rt:=[2] })],gho:=[],ctx:=[(88,C88)] }
@[simp] theorem g76_s:type_of% (cfg_s (g:=g76) rfl):=cfg_s rfl
theorem w76 {h_} {y} (hp:zeb h_=some y):∃ m,callo g76 0 76 [av .shr h_] mem0=some (Res.res y,m):=by
 refine st0 [.tmp 2] Tryz.func76 ?_
 unfold zeb at hp
 simp [Tryz.f76]
 obtain ⟨r_24,h_25,hp⟩:=zab hp
 obtain ⟨I_3,I_3_⟩:=exV fun (s_1:Int) (σ:St)=>(σ.env 1=uP (1,1)∧σ.env 3=uI s_1∧σ.mem (1,1)=some [cL .shr h_.vars,cL .shr h_.next])∧NoBox [(1,1)] σ.mem
 obtain ⟨X_4,X_4_⟩:=exV fun (r_24:(Unit) ⊕ (Unit)) (out:Out)=>Sum.elim (fun r_24=>∃ σ:St,out=.ret σ∧(σ.env 2=uB false∧σ.mem (1,1)=some [cL .shr h_.vars,cL .shr h_.next])∧NoBox [(1,1)] σ.mem) (fun r_24=>∃ σ:St,out=.exit 0 σ∧σ.mem (1,1)=some [cL .shr h_.vars,cL .shr h_.next]∧NoBox [(1,1)] σ.mem) r_24
 refine loopP ({ hd:=[1,3],bx:=[],ex:=[],rt:=[2] }) I_3 X_4 h_25 (by exact rfl) ?_ ?_ ?_
 ·rw [I_3_]
  exact ⟨by simp [zac,zaa],NoBox.restrict (by intro k hk hb;simp at hk hb;simp [hk,hb])⟩
 ·intro s_1 σ_5 a_2 hI hp
  rw [I_3_] at hI
  obtain ⟨q_7,hn_6⟩:=hI
  try simp [q_7]
  rcases zad hp with ⟨h_8,hp⟩|⟨h_8,hp⟩
  ·try simp at h_8
   obtain ⟨y_9,h_10,hp⟩:=zab hp
   have c_11:=C88_eq h_10
   simp at c_11
   try simp [q_7,h_8,c_11]
   rcases zad hp with ⟨h_12,hp⟩|⟨h_12,hp⟩
   ·try simp at h_12
    cases hp
    try simp [q_7,h_8,h_12]
    refine zal ?_
    rw [X_4_]
    exact ⟨_,rfl,by simp [zac,zaa,q_7,h_8,h_12],NoBox.restrict (by intro k hk hb;simp at hk hb;simp [hk,hb,q_7,h_8,h_12,hn_6 k (by simp [hk,hb])])⟩
   ·try simp at h_12
    obtain ⟨e_13,h_14,hp⟩:=zab hp
    have b_15:=at_lo h_14
    have b_16:=at_hi h_14
    try simp at b_15 b_16
    have c_17:=seg_at' h_14 0 1 (by decide) (ds:=[.sc (.int .i64 e_13)]) rfl
    try simp at c_17
    obtain ⟨e_18,h_19,hp⟩:=zab hp
    have b_20:=at_lo h_19
    have b_21:=at_hi h_19
    try simp at b_20 b_21
    have c_22:=seg_at' h_19 0 1 (by decide) (ds:=[.sc (.int .i64 e_18)]) rfl
    try simp at c_22
    try simp [q_7,h_8,h_12,b_15,b_16,c_17,b_20,b_21,c_22]
    rcases zad hp with ⟨h_23,hp⟩|⟨h_23,hp⟩
    ·try simp at h_23
     cases hp
     try simp [q_7,h_8,h_12,h_23]
     refine zal ?_
     rw [X_4_]
     exact ⟨_,rfl,by simp [zac,zaa,q_7,h_8,h_12,h_23],NoBox.restrict (by intro k hk hb;simp at hk hb;simp [hk,hb,q_7,h_8,h_12,h_23,hn_6 k (by simp [hk,hb])])⟩
    ·try simp at h_23
     cases hp
     try simp [q_7,h_8,h_12,h_23]
     refine zae ?_
     rw [I_3_]
     exact ⟨by simp [zac,zaa,q_7,h_8,h_12,h_23],NoBox.restrict (by intro k hk hb;simp at hk hb;simp [hk,hb,q_7,h_8,h_12,h_23,hn_6 k (by simp [hk,hb])])⟩
  ·try simp at h_8
   cases hp
   try simp [q_7,h_8]
   refine zag ?_
   rw [X_4_]
   exact ⟨_,rfl,by simp [zac,zaa,q_7,h_8],NoBox.restrict (by intro k hk hb;simp at hk hb;simp [hk,hb,q_7,h_8,hn_6 k (by simp [hk,hb])])⟩
 ·intro out hX
  rw [X_4_] at hX
  rcases r_24 with r_24 | r_24
  ·simp only [Sum.elim_inl,Sum.elim_inr] at hX hp
   obtain ⟨σ_26,rfl,q_28,hn_27⟩:=hX
   cases hp
   simp [Goal,FnEnd,q_28]
  ·simp only [Sum.elim_inl,Sum.elim_inr] at hX hp
   obtain ⟨σ_29,rfl,q_31,hn_30⟩:=hX
   cases hp
   simp [Goal,FnEnd,q_31]
theorem pc76:PC Tryz.prog 76 C76:=pc_of (g:=g76) (zai _ g76_s.2.1 ⟨pc88,trivial⟩) (ent Tryz.func76) fun x y h=>w76 h

def C34:List AV→Option AV:=specP (X:=Int × THeap × Unit) fun x=>zef x.1 x.2.1
theorem C34_eq {vars h_} {y} (h:zef vars h_=some y):C34 [av .shr vars,av .shr h_]=some (Res.res y):=zah (x:=(vars,h_,())) h
def g34:Cfg:={ P:=Tryz.prog,take:=[],keep:=[((34,5),{ hd:=[3,5,6],bx:=[],ex:=[3,5],rt:=[4] })],gho:=[],ctx:=[(66,C66),(75,C75),(76,C76),(77,C77)] }
@[simp] theorem g34_s:type_of% (cfg_s (g:=g34) rfl):=cfg_s rfl
theorem w34 {vars h_} {y} (hp:zef vars h_=some y):∃ m,callo g34 0 34 [av .shr vars,av .shr h_] mem0=some (Res.res y,m):=by
 refine st0 [.tmp 4] Tryz.func34 ?_
 unfold zef at hp
 obtain ⟨y_1,h_2,hp⟩:=zab hp
 have c_3:=zfw h_2
 simp at c_3
 simp [Tryz.f34,c_3]
 rcases zad hp with ⟨h_4,hp⟩|⟨h_4,hp⟩
 ·try simp at h_4
  try simp [h_4]
  rcases zad hp with ⟨h_5,hp⟩|⟨h_5,hp⟩
  ·try simp at h_5
   cases hp
   simp [Goal,FnEnd,h_4,h_5]
  ·try simp at h_5
   try simp [h_4,h_5]
   rcases zad hp with ⟨h_6,hp⟩|⟨h_6,hp⟩
   ·try simp at h_6
    cases hp
    simp [Goal,FnEnd,h_4,h_5,h_6]
   ·try simp at h_6
    obtain ⟨y_7,h_8,hp⟩:=zab hp
    have c_9:=C75_eq h_8
    simp at c_9
    try simp [h_4,h_5,h_6,c_9]
    rcases zad hp with ⟨h_10,hp⟩|⟨h_10,hp⟩
    ·try simp at h_10
     obtain ⟨y_11,h_12,hp⟩:=zab hp
     have c_13:=C76_eq h_12
     simp at c_13
     try simp [h_4,h_5,h_6,h_10,c_13]
     rcases zad hp with ⟨h_14,hp⟩|⟨h_14,hp⟩
     ·try simp at h_14
      obtain ⟨y_15,h_16,hp⟩:=zab hp
      have c_17:=C77_eq h_16
      simp at c_17
      try simp [h_4,h_5,h_6,h_10,h_14,c_17]
      obtain ⟨r_32,h_33,hp⟩:=zab hp
      obtain ⟨I_20,I_20_⟩:=exV fun (s_18:Int) (σ:St)=>(σ.env 3=uP (1,3)∧σ.env 5=uL .own y_15∧σ.env 6=uI s_18∧σ.mem (1,3)=some [cL .shr h_.vars,cL .shr h_.next])∧NoBox [(1,3)] σ.mem
      obtain ⟨X_21,X_21_⟩:=exV fun (r_32:(Unit) ⊕ (Unit)) (out:Out)=>Sum.elim (fun r_32=>∃ σ:St,out=.ret σ∧(σ.env 4=uB false∧σ.mem (1,3)=some [cL .shr h_.vars,cL .shr h_.next])∧NoBox [(1,3)] σ.mem) (fun r_32=>∃ σ:St,out=.exit 0 σ∧(σ.env 3=uP (1,3)∧σ.env 5=uL .own y_15∧σ.mem (1,3)=some [cL .shr h_.vars,cL .shr h_.next])∧NoBox [(1,3)] σ.mem) r_32
      refine loopP ({ hd:=[3,5,6],bx:=[],ex:=[3,5],rt:=[4] }) I_20 X_21 h_33 (by exact rfl) ?_ ?_ ?_
      ·rw [I_20_]
       exact ⟨by simp [zac,zaa,h_4,h_5,h_6,h_10,h_14],NoBox.restrict (by intro k hk hb;simp at hk hb;simp [hk,hb,h_4,h_5,h_6,h_10,h_14])⟩
      ·intro s_18 σ_22 a_19 hI hp
       rw [I_20_] at hI
       obtain ⟨q_24,hn_23⟩:=hI
       try simp [h_4,h_5,h_6,h_10,h_14,q_24]
       rcases zad hp with ⟨h_25,hp⟩|⟨h_25,hp⟩
       ·try simp at h_25
        obtain ⟨e_26,h_27,hp⟩:=zab hp
        have b_28:=at_lo h_27
        have b_29:=at_hi h_27
        try simp at b_28 b_29
        have c_30:=seg_at' h_27 0 1 (by decide) (ds:=[.sc (.int .i64 e_26)]) rfl
        try simp at c_30
        try simp [h_4,h_5,h_6,h_10,h_14,q_24,h_25,b_28,b_29,c_30]
        rcases zad hp with ⟨h_31,hp⟩|⟨h_31,hp⟩
        ·try simp at h_31
         cases hp
         try simp [h_4,h_5,h_6,h_10,h_14,q_24,h_25,h_31]
         refine zal ?_
         rw [X_21_]
         exact ⟨_,rfl,by simp [zac,zaa,h_4,h_5,h_6,h_10,h_14,q_24,h_25,h_31],NoBox.restrict (by intro k hk hb;simp at hk hb;simp [hk,hb,h_4,h_5,h_6,h_10,h_14,q_24,h_25,h_31,hn_23 k (by simp [hk,hb])])⟩
        ·try simp at h_31
         cases hp
         try simp [h_4,h_5,h_6,h_10,h_14,q_24,h_25,h_31]
         refine zae ?_
         rw [I_20_]
         exact ⟨by simp [zac,zaa,h_4,h_5,h_6,h_10,h_14,q_24,h_25,h_31],NoBox.restrict (by intro k hk hb;simp at hk hb;simp [hk,hb,h_4,h_5,h_6,h_10,h_14,q_24,h_25,h_31,hn_23 k (by simp [hk,hb])])⟩
       ·try simp at h_25
        cases hp
        try simp [h_4,h_5,h_6,h_10,h_14,q_24,h_25]
        refine zag ?_
        rw [X_21_]
        exact ⟨_,rfl,by simp [zac,zaa,h_4,h_5,h_6,h_10,h_14,q_24,h_25],NoBox.restrict (by intro k hk hb;simp at hk hb;simp [hk,hb,h_4,h_5,h_6,h_10,h_14,q_24,h_25,hn_23 k (by simp [hk,hb])])⟩
      ·intro out hX
       rw [X_21_] at hX
       rcases r_32 with r_32 | r_32
       ·simp only [Sum.elim_inl,Sum.elim_inr] at hX hp
        obtain ⟨σ_34,rfl,q_36,hn_35⟩:=hX
        cases hp
        simp [Goal,FnEnd,h_4,h_5,h_6,h_10,h_14,q_36]
       ·simp only [Sum.elim_inl,Sum.elim_inr] at hX hp
        obtain ⟨σ_37,rfl,q_39,hn_38⟩:=hX
        cases hp
        simp [Goal,FnEnd,h_4,h_5,h_6,h_10,h_14,q_39]
     ·try simp at h_14
      cases hp
      simp [Goal,FnEnd,h_4,h_5,h_6,h_10,h_14]
    ·try simp at h_10
     cases hp
     simp [Goal,FnEnd,h_4,h_5,h_6,h_10]
 ·try simp at h_4
  cases hp
  simp [Goal,FnEnd,h_4]
theorem pc34:PC Tryz.prog 34 C34:=pc_of (g:=g34) (zai _ g34_s.2.1 ⟨pc66,pc75,pc76,pc77,trivial⟩) (ent Tryz.func34) fun x y h=>w34 h

def C84:List AV→Option AV:=specP (X:=THeap × Unit) fun x=>zet x.1
theorem C84_eq {h_} {y} (h:zet h_=some y):C84 [av .shr h_]=some (Res.res y):=zah (x:=(h_,())) h
def g84:Cfg:={ P:=Tryz.prog,take:=[],keep:=[],gho:=[],ctx:=[] }
@[simp] theorem g84_s:type_of% (cfg_s (g:=g84) rfl):=cfg_s rfl
theorem w84 {h_} {y} (hp:zet h_=some y):∃ m,callo g84 0 84 [av .shr h_] mem0=some (Res.res y,m):=by
 refine st0 [.cell 2 36] Tryz.func84 ?_
 unfold zet at hp
 obtain ⟨_,h_1,hp⟩:=zab hp
 have b_2:=zap h_1
 try simp at b_2
 obtain ⟨_,h_3,hp⟩:=zab hp
 have b_4:=zap h_3
 try simp at b_4
 cases hp
 simp [Tryz.f84,Goal,FnEnd,retR,rsrc,RSrc.val,nodupR,nodup,tupPart,b_2,b_4]
theorem pc84:PC Tryz.prog 84 C84:=pc_of (g:=g84) (zai [] rfl trivial) (ent Tryz.func84) fun x y h=>w84 h

def C42:List AV→Option AV:=specP (X:=Int × Int × Unit) fun x=>zcd x.1 x.2.1
theorem C42_eq {vars cells} {y} (h:zcd vars cells=some y):C42 [av .shr vars,av .shr cells]=some (Res.res y):=zah (x:=(vars,cells,())) h
def g42:Cfg:={ P:=Tryz.prog,take:=[(42,21),(42,59),(42,64)],keep:=[((42,5),{ hd:=[0,1,5,6],bx:=[11],ex:=[5],rt:=[4] }),((42,10),{ hd:=[0,1,5,6,7,8,9],bx:=[11],ex:=[0,1,5,6],rt:=[4] }),((42,13),{ hd:=[0,1,5,6,7,8,9,10],bx:=[11],ex:=[0,1,5,6,7,8,9],rt:=[4] })],gho:=[],ctx:=[(34,C34),(66,C66),(83,C83),(84,C84)] }
@[simp] theorem g42_s:type_of% (cfg_s (g:=g42) rfl):=cfg_s rfl
theorem w42 {vars cells} {y} (hp:zcd vars cells=some y):∃ m,callo g42 0 42 [av .shr vars,av .shr cells] mem0=some (Res.res y,m):=by
 refine st0 [.tmp 4] Tryz.func42 ?_
 unfold zcd at hp
 obtain ⟨y_1,h_2,hp⟩:=zab hp
 have c_3:=zfw h_2
 simp at c_3
 simp [Tryz.f42,c_3]
 rcases zad hp with ⟨h_4,hp⟩|⟨h_4,hp⟩
 ·try simp at h_4
  obtain ⟨y_5,h_6,hp⟩:=zab hp
  have c_7:=zfw h_6
  simp at c_7
  try simp [h_4,c_7]
  rcases zad hp with ⟨h_8,hp⟩|⟨h_8,hp⟩
  ·try simp at h_8
   try simp [h_4,h_8]
   obtain ⟨r_69,h_70,hp⟩:=zab hp
   obtain ⟨I_11,I_11_⟩:=exV fun (s_9:(List THeap) × Int) (σ:St)=>(σ.env 0=uI vars∧σ.env 1=uI cells∧σ.env 5=uL .own s_9.1∧σ.env 6=uI s_9.2)∧NoBox [] σ.mem
   obtain ⟨X_12,X_12_⟩:=exV fun (r_69:(List THeap)) (out:Out)=>∃ σ:St,out=.exit 0 σ∧σ.env 5=uL .own r_69∧NoBox [] σ.mem
   refine loopP ({ hd:=[0,1,5,6],bx:=[11],ex:=[5],rt:=[4] }) I_11 X_12 h_70 (by exact rfl) ?_ ?_ ?_
   ·rw [I_11_]
    exact ⟨by simp [zac,zaa,h_4,h_8],NoBox.restrict (by intro k hk hb;simp at hk hb;simp [hk,hb,h_4,h_8])⟩
   ·intro s_9 σ_13 a_10 hI hp
    rw [I_11_] at hI
    obtain ⟨q_15,hn_14⟩:=hI
    try simp [h_4,h_8,q_15]
    rcases zad hp with ⟨h_16,hp⟩|⟨h_16,hp⟩
    ·try simp at h_16
     obtain ⟨y_17,h_18,hp⟩:=zab hp
     have c_19:=C83_eq h_18
     simp at c_19
     obtain ⟨y_20,h_21,hp⟩:=zab hp
     have c_22:=C83_eq h_21
     simp at c_22
     try simp [h_4,h_8,q_15,h_16,c_19,c_22]
     obtain ⟨r_64,h_65,hp⟩:=zab hp
     obtain ⟨I_25,I_25_⟩:=exV fun (s_23:(List THeap) × Int) (σ:St)=>(σ.env 0=uI vars∧σ.env 1=uI cells∧σ.env 5=uL .own s_23.1∧σ.env 6=uI s_9.2∧σ.env 7=uL .own y_17∧σ.env 8=uL .own y_20∧σ.env 9=uI s_23.2)∧NoBox [] σ.mem
     obtain ⟨X_26,X_26_⟩:=exV fun (r_64:(List THeap)) (out:Out)=>∃ σ:St,out=.exit 2 σ∧(σ.env 0=uI vars∧σ.env 1=uI cells∧σ.env 5=uL .own r_64∧σ.env 6=uI s_9.2)∧NoBox [] σ.mem
     refine loopP ({ hd:=[0,1,5,6,7,8,9],bx:=[11],ex:=[0,1,5,6],rt:=[4] }) I_25 X_26 h_65 (by exact rfl) ?_ ?_ ?_
     ·rw [I_25_]
      exact ⟨by simp [zac,zaa,h_4,h_8,q_15,h_16],NoBox.restrict (by intro k hk hb;simp at hk hb;simp [hk,hb,h_4,h_8,q_15,h_16,hn_14 k (by simp [hk,hb])])⟩
     ·intro s_23 σ_27 a_24 hI hp
      rw [I_25_] at hI
      obtain ⟨q_29,hn_28⟩:=hI
      try simp [h_4,h_8,h_16,q_29]
      rcases zad hp with ⟨h_30,hp⟩|⟨h_30,hp⟩
      ·try simp at h_30
       try simp [h_4,h_8,h_16,q_29,h_30]
       obtain ⟨r_59,h_60,hp⟩:=zab hp
       obtain ⟨I_33,I_33_⟩:=exV fun (s_31:(List THeap) × Int) (σ:St)=>(σ.env 0=uI vars∧σ.env 1=uI cells∧σ.env 5=uL .own s_31.1∧σ.env 6=uI s_9.2∧σ.env 7=uL .own y_17∧σ.env 8=uL .own y_20∧σ.env 9=uI s_23.2∧σ.env 10=uI s_31.2)∧NoBox [] σ.mem
       obtain ⟨X_34,X_34_⟩:=exV fun (r_59:(List THeap)) (out:Out)=>∃ σ:St,out=.exit 4 σ∧(σ.env 0=uI vars∧σ.env 1=uI cells∧σ.env 5=uL .own r_59∧σ.env 6=uI s_9.2∧σ.env 7=uL .own y_17∧σ.env 8=uL .own y_20∧σ.env 9=uI s_23.2)∧NoBox [] σ.mem
       refine loopP ({ hd:=[0,1,5,6,7,8,9,10],bx:=[11],ex:=[0,1,5,6,7,8,9],rt:=[4] }) I_33 X_34 h_60 (by exact rfl) ?_ ?_ ?_
       ·rw [I_33_]
        exact ⟨by simp [zac,zaa,h_4,h_8,h_16,q_29,h_30],NoBox.restrict (by intro k hk hb;simp at hk hb;simp [hk,hb,h_4,h_8,h_16,q_29,h_30,hn_28 k (by simp [hk,hb])])⟩
       ·intro s_31 σ_35 a_32 hI hp
        rw [I_33_] at hI
        obtain ⟨q_37,hn_36⟩:=hI
        try simp [h_4,h_8,h_16,h_30,q_37]
        rcases zad hp with ⟨h_38,hp⟩|⟨h_38,hp⟩
        ·try simp at h_38
         obtain ⟨e_39,h_40,hp⟩:=zab hp
         have b_41:=at_lo h_40
         have b_42:=at_hi h_40
         try simp at b_41 b_42
         have c_43:=seg_at' h_40 0 1 (by decide) (ds:=[.sl e_39.length (encL e_39)]) rfl
         try simp at c_43
         obtain ⟨e_44,h_45,hp⟩:=zab hp
         have b_46:=at_lo h_45
         have b_47:=at_hi h_45
         try simp at b_46 b_47
         have c_48:=seg_at' h_45 0 1 (by decide) (ds:=[.sl e_44.length (encL e_44)]) rfl
         try simp at c_48
         have n_49:=hn_36 (1,11) (by simp)
         obtain ⟨y_50,h_51,hp⟩:=zab hp
         have c_52:=C34_eq h_51
         simp at c_52
         try simp [h_4,h_8,h_16,h_30,q_37,h_38,b_41,b_42,c_43,b_46,b_47,c_48,n_49,c_52]
         rcases zad hp with ⟨h_53,hp⟩|⟨h_53,hp⟩
         ·try simp at h_53
          obtain ⟨y_54,h_55,hp⟩:=zab hp
          have c_56:=C84_eq h_55
          simp at c_56
          obtain ⟨_,h_57,hp⟩:=zab hp
          have b_58:=zap h_57
          try simp at b_58
          cases hp
          try simp [h_4,h_8,h_16,h_30,q_37,h_38,h_53,c_56,b_58]
          refine zae ?_
          rw [I_33_]
          exact ⟨by simp [zac,zaa,h_4,h_8,h_16,h_30,q_37,h_38,h_53,c_56,b_58],NoBox.restrict (by intro k hk hb;simp at hk hb;simp [hk,hb,h_4,h_8,h_16,h_30,q_37,h_38,h_53,c_56,b_58,hn_36 k (by simp [hk,hb])])⟩
         ·try simp at h_53
          cases hp
          try simp [h_4,h_8,h_16,h_30,q_37,h_38,h_53]
          refine zae ?_
          rw [I_33_]
          exact ⟨by simp [zac,zaa,h_4,h_8,h_16,h_30,q_37,h_38,h_53],NoBox.restrict (by intro k hk hb;simp at hk hb;simp [hk,hb,h_4,h_8,h_16,h_30,q_37,h_38,h_53,hn_36 k (by simp [hk,hb])])⟩
        ·try simp at h_38
         cases hp
         try simp [h_4,h_8,h_16,h_30,q_37,h_38]
         refine zag ?_
         rw [X_34_]
         exact ⟨_,rfl,by simp [zac,zaa,h_4,h_8,h_16,h_30,q_37,h_38],NoBox.restrict (by intro k hk hb;simp at hk hb;simp [hk,hb,h_4,h_8,h_16,h_30,q_37,h_38,hn_36 k (by simp [hk,hb])])⟩
       ·intro out hX
        rw [X_34_] at hX
        obtain ⟨σ_61,rfl,q_63,hn_62⟩:=hX
        cases hp
        try simp [h_4,h_8,h_16,h_30,q_63]
        refine zae ?_
        rw [I_25_]
        exact ⟨by simp [zac,zaa,h_4,h_8,h_16,h_30,q_63],NoBox.restrict (by intro k hk hb;simp at hk hb;simp [hk,hb,h_4,h_8,h_16,h_30,q_63,hn_62 k (by simp [hk,hb])])⟩
      ·try simp at h_30
       cases hp
       try simp [h_4,h_8,h_16,q_29,h_30]
       refine zag ?_
       rw [X_26_]
       exact ⟨_,rfl,by simp [zac,zaa,h_4,h_8,h_16,q_29,h_30],NoBox.restrict (by intro k hk hb;simp at hk hb;simp [hk,hb,h_4,h_8,h_16,q_29,h_30,hn_28 k (by simp [hk,hb])])⟩
     ·intro out hX
      rw [X_26_] at hX
      obtain ⟨σ_66,rfl,q_68,hn_67⟩:=hX
      cases hp
      try simp [h_4,h_8,h_16,q_68]
      refine zae ?_
      rw [I_11_]
      exact ⟨by simp [zac,zaa,h_4,h_8,h_16,q_68],NoBox.restrict (by intro k hk hb;simp at hk hb;simp [hk,hb,h_4,h_8,h_16,q_68,hn_67 k (by simp [hk,hb])])⟩
    ·try simp at h_16
     cases hp
     try simp [h_4,h_8,q_15,h_16]
     refine zag ?_
     rw [X_12_]
     exact ⟨_,rfl,by simp [zac,zaa,h_4,h_8,q_15,h_16],NoBox.restrict (by intro k hk hb;simp at hk hb;simp [hk,hb,h_4,h_8,q_15,h_16,hn_14 k (by simp [hk,hb])])⟩
   ·intro out hX
    rw [X_12_] at hX
    obtain ⟨σ_71,rfl,q_73,hn_72⟩:=hX
    cases hp
    simp [Goal,FnEnd,h_4,h_8,q_73]
  ·try simp at h_8
   cases hp
   simp [Goal,FnEnd,h_4,h_8]
 ·try simp at h_4
  cases hp
  simp [Goal,FnEnd,h_4]
theorem pc42:PC Tryz.prog 42 C42:=pc_of (g:=g42) (zai _ g42_s.2.1 ⟨pc34,pc66,pc83,pc84,trivial⟩) (ent Tryz.func42) fun x y h=>w42 h
end Go.Proofs

