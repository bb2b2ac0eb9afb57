import Derived.Test.YtfcfpdcjepobpaaGreatEvA15
set_option linter.unusedSimpArgs false
set_option linter.unusedVariables false
set_option linter.unnecessarySimpa false
noncomputable section
set_option maxHeartbeats 4000000
set_option maxRecDepth 100000
namespace Go.Proofs
open Go.Ev
def C158:List AV→Option AV:=specP (X:=Int × Int × Unit) fun x=>zbl x.1 x.2.1
theorem zpb {a_ b_} {y} (h:zbl a_ b_=some y):C158 [av .shr a_,av .shr b_]=some (Res.res y):=zah (x:=(a_,b_,())) h
def g158:Cfg:={ P:=Tryz.prog,take:=[],keep:=[],gho:=[],ctx:=[(73,C73)] }
@[simp] theorem g158_s:type_of% (cfg_s (g:=g158) rfl):=cfg_s rfl
theorem w158 {a_ b_} {y} (hp:zbl a_ b_=some y):∃ m,callo g158 0 158 [av .shr a_,av .shr b_] mem0=some (Res.res y,m):=by
 refine st0 [.tmp 4] Tryz.func158 ?_
 unfold zbl at hp
 obtain ⟨y_1,h_2,hp⟩:=zab hp
 have c_3:=zpx h_2
 simp at c_3
 simp [Tryz.f158,c_3]
 rcases zad hp with ⟨h_4,hp⟩|⟨h_4,hp⟩
 ·try simp at h_4
  obtain ⟨y_5,h_6,hp⟩:=zab hp
  have c_7:=zpx h_6
  simp at c_7
  try simp [h_4,c_7]
  rcases zad hp with ⟨h_8,hp⟩|⟨h_8,hp⟩
  ·try simp at h_8
   try simp [h_4,h_8]
   rcases zad hp with ⟨h_9,hp⟩|⟨h_9,hp⟩
   ·try simp at h_9
    cases hp
    simp [Goal,FnEnd,h_4,h_8,h_9]
   ·try simp at h_9
    cases hp
    simp [Goal,FnEnd,h_4,h_8,h_9]
  ·try simp at h_8
   cases hp
   simp [Goal,FnEnd,h_4,h_8]
 ·try simp at h_4
  cases hp
  simp [Goal,FnEnd,h_4]
theorem pc158:PC Tryz.prog 158 C158:=pc_of (g:=g158) (zai _ g158_s.2.1 ⟨pc73,trivial⟩) (ent Tryz.func158) fun x y h=>w158 h

def C166:List AV→Option AV:=specP (X:=(List Int) × (List Int) × Unit) fun x=>zdw x.1 x.2.1
theorem C166_eq {a_ b_} {y} (h:zdw a_ b_=some y):C166 [av .shr a_,av .shr b_]=some (Res.res y):=zah (x:=(a_,b_,())) h
def g166:Cfg:={ P:=Tryz.prog,take:=[],keep:=[((166,4),{ hd:=[0,1,5],bx:=[],ex:=[],rt:=[4] })],gho:=[],ctx:=[(158,C158)] }
@[simp] theorem g166_s:type_of% (cfg_s (g:=g166) rfl):=cfg_s rfl
theorem w166 {a_ b_} {y} (hp:zdw a_ b_=some y):∃ m,callo g166 0 166 [av .shr a_,av .shr b_] mem0=some (Res.res y,m):=by
 refine st0 [.tmp 4] Tryz.func166 ?_
 unfold zdw at hp
 simp [Tryz.f166]
 rcases zad hp with ⟨h_1,hp⟩|⟨h_1,hp⟩
 ·try simp at h_1
  cases hp
  simp [Goal,FnEnd,h_1]
 ·try simp at h_1
  try simp [h_1]
  obtain ⟨r_24,h_25,hp⟩:=zab hp
  obtain ⟨I_4,I_4_⟩:=exV fun (s_2:Int) (σ:St)=>(σ.env 0=uL .shr a_∧σ.env 1=uL .shr b_∧σ.env 5=uI s_2)∧σ.mem=mem0
  obtain ⟨X_5,X_5_⟩:=exV fun (r_24:(Unit) ⊕ (Unit)) (out:Out)=>Sum.elim (fun r_24=>∃ σ:St,out=.ret σ∧σ.env 4=uB false∧σ.mem=mem0) (fun r_24=>∃ σ:St,out=.exit 0 σ∧σ.mem=mem0) r_24
  refine loopP ({ hd:=[0,1,5],bx:=[],ex:=[],rt:=[4] }) I_4 X_5 h_25 (by exact rfl) ?_ ?_ ?_
  ·rw [I_4_]
   exact ⟨by simp [zac,zaa,h_1],by simp [zaa,h_1]⟩
  ·intro s_2 σ_6 a_3 hI hp
   rw [I_4_] at hI
   obtain ⟨q_8,q_7⟩:=hI
   try simp [h_1,q_8,q_7]
   rcases zad hp with ⟨h_9,hp⟩|⟨h_9,hp⟩
   ·try simp at h_9
    obtain ⟨e_10,h_11,hp⟩:=zab hp
    have b_12:=at_lo h_11
    have b_13:=at_hi h_11
    try simp at b_12 b_13
    have c_14:=seg_at' h_11 0 1 (by decide) (ds:=[.sc (.int .i64 e_10)]) rfl
    try simp at c_14
    obtain ⟨e_15,h_16,hp⟩:=zab hp
    have b_17:=at_lo h_16
    have b_18:=at_hi h_16
    try simp at b_17 b_18
    have c_19:=seg_at' h_16 0 1 (by decide) (ds:=[.sc (.int .i64 e_15)]) rfl
    try simp at c_19
    obtain ⟨y_20,h_21,hp⟩:=zab hp
    have c_22:=zpb h_21
    simp at c_22
    try simp [h_1,q_8,q_7,h_9,b_12,b_13,c_14,b_17,b_18,c_19,c_22]
    rcases zad hp with ⟨h_23,hp⟩|⟨h_23,hp⟩
    ·try simp at h_23
     cases hp
     try simp [h_1,q_8,q_7,h_9,h_23]
     refine zae ?_
     rw [I_4_]
     exact ⟨by simp [zac,zaa,h_1,q_8,q_7,h_9,h_23],by simp [zaa,h_1,q_8,q_7,h_9,h_23]⟩
    ·try simp at h_23
     cases hp
     try simp [h_1,q_8,q_7,h_9,h_23]
     refine zal ?_
     rw [X_5_]
     exact ⟨_,rfl,by simp [zac,zaa,h_1,q_8,q_7,h_9,h_23],by simp [zaa,h_1,q_8,q_7,h_9,h_23]⟩
   ·try simp at h_9
    cases hp
    try simp [h_1,q_8,q_7,h_9]
    refine zag ?_
    rw [X_5_]
    exact ⟨_,rfl,by simp [zaa,h_1,q_8,q_7,h_9]⟩
  ·intro out hX
   rw [X_5_] at hX
   rcases r_24 with r_24 | r_24
   ·simp only [Sum.elim_inl,Sum.elim_inr] at hX hp
    obtain ⟨σ_26,rfl,q_28,q_27⟩:=hX
    cases hp
    simp [Goal,FnEnd,h_1,q_28,q_27]
   ·simp only [Sum.elim_inl,Sum.elim_inr] at hX hp
    obtain ⟨σ_29,rfl,q_30⟩:=hX
    cases hp
    simp [Goal,FnEnd,h_1,q_30]
theorem pc166:PC Tryz.prog 166 C166:=pc_of (g:=g166) (zai _ g166_s.2.1 ⟨pc158,trivial⟩) (ent Tryz.func166) fun x y h=>w166 h

def C157:List AV→Option AV:=specP (X:=TNode × TNode × Unit) fun x=>zfi x.1 x.2.1
theorem C157_eq {x_ y_} {y} (h:zfi x_ y_=some y):C157 [av .shr x_,av .shr y_]=some (Res.res y):=zah (x:=(x_,y_,())) h
def g157:Cfg:={ P:=Tryz.prog,take:=[],keep:=[],gho:=[],ctx:=[(158,C158),(166,C166)] }
@[simp] theorem g157_s:type_of% (cfg_s (g:=g157) rfl):=cfg_s rfl
theorem w157 {x_ y_} {y} (hp:zfi x_ y_=some y):∃ m,callo g157 0 157 [av .shr x_,av .shr y_] mem0=some (Res.res y,m):=by
 refine st0 [.tmp 4] Tryz.func157 ?_
 unfold zfi at hp
 obtain ⟨y_1,h_2,hp⟩:=zab hp
 have c_3:=C166_eq h_2
 simp at c_3
 simp [Tryz.f157,c_3]
 rcases zad hp with ⟨h_4,hp⟩|⟨h_4,hp⟩
 ·try simp at h_4
  obtain ⟨y_5,h_6,hp⟩:=zab hp
  have c_7:=C166_eq h_6
  simp at c_7
  try simp [h_4,c_7]
  rcases zad hp with ⟨h_8,hp⟩|⟨h_8,hp⟩
  ·try simp at h_8
   obtain ⟨y_9,h_10,hp⟩:=zab hp
   have c_11:=zpb h_10
   simp at c_11
   try simp [h_4,h_8,c_11]
   rcases zad hp with ⟨h_12,hp⟩|⟨h_12,hp⟩
   ·try simp at h_12
    obtain ⟨y_13,h_14,hp⟩:=zab hp
    have c_15:=zpb h_14
    simp at c_15
    cases hp
    simp [Goal,FnEnd,h_4,h_8,h_12,c_15]
   ·try simp at h_12
    cases hp
    simp [Goal,FnEnd,h_4,h_8,h_12]
  ·try simp at h_8
   cases hp
   simp [Goal,FnEnd,h_4,h_8]
 ·try simp at h_4
  cases hp
  simp [Goal,FnEnd,h_4]
theorem pc157:PC Tryz.prog 157 C157:=pc_of (g:=g157) (zai _ g157_s.2.1 ⟨pc158,pc166,trivial⟩) (ent Tryz.func157) fun x y h=>w157 h

def C143:List AV→Option AV:=specP (X:=TStructure × TStructure × (List Int) × Unit) fun x=>zdx x.1 x.2.1 x.2.2.1
theorem C143_eq {s t to_} {y} (h:zdx s t to_=some y):C143 [av .shr s,av .shr t,av .shr to_]=some (Res.res y):=zah (x:=(s,t,to_,())) h
def g143:Cfg:={ P:=Tryz.prog,take:=[],keep:=[((143,5),{ hd:=[2,3,4,7,8],bx:=[],ex:=[],rt:=[6] })],gho:=[],ctx:=[(103,C103),(157,C157),(158,C158)] }
@[simp] theorem g143_s:type_of% (cfg_s (g:=g143) rfl):=cfg_s rfl
theorem w143 {s t to_} {y} (hp:zdx s t to_=some y):∃ m,callo g143 0 143 [av .shr s,av .shr t,av .shr to_] mem0=some (Res.res y,m):=by
 refine st0 [.tmp 6] Tryz.func143 ?_
 unfold zdx at hp
 obtain ⟨e_1,h_2,hp⟩:=zab hp
 have b_3:=at_lo h_2
 have b_4:=at_hi h_2
 try simp at b_3 b_4
 have c_5:=seg_at' h_2 0 4 (by decide) (ds:=[.sl e_1.vars.length (encL e_1.vars),.sl e_1.reach.length (encL e_1.reach),.sc (.int .i64 e_1.shared),.sc (.int .i64 e_1.many)]) rfl
 try simp at c_5
 obtain ⟨e_6,h_7,hp⟩:=zab hp
 have b_8:=at_lo h_7
 have b_9:=at_hi h_7
 try simp at b_8 b_9
 have c_10:=seg_at' h_7 0 1 (by decide) (ds:=[.sc (.int .i64 e_6)]) rfl
 try simp at c_10
 obtain ⟨e_11,h_12,hp⟩:=zab hp
 have b_13:=at_lo h_12
 have b_14:=at_hi h_12
 try simp at b_13 b_14
 have c_15:=seg_at' h_12 0 4 (by decide) (ds:=[.sl e_11.vars.length (encL e_11.vars),.sl e_11.reach.length (encL e_11.reach),.sc (.int .i64 e_11.shared),.sc (.int .i64 e_11.many)]) rfl
 try simp at c_15
 obtain ⟨y_16,h_17,hp⟩:=zab hp
 have c_18:=C157_eq h_17
 simp at c_18
 simp [Tryz.f143,b_3,b_4,c_5,b_8,b_9,c_10,b_13,b_14,c_15,c_18]
 rcases zad hp with ⟨h_19,hp⟩|⟨h_19,hp⟩
 ·try simp at h_19
  try simp [h_19]
  obtain ⟨r_91,h_92,hp⟩:=zab hp
  obtain ⟨I_22,I_22_⟩:=exV fun (s_20:Int) (σ:St)=>(σ.env 2=uL .shr to_∧σ.env 3=uP (1,3)∧σ.env 4=uP (1,4)∧σ.env 7=uI (subI (to_.length:Int) 1)∧σ.env 8=uI s_20∧σ.mem (1,3)=some [cL .shr s.nodes,cL .shr s.next]∧σ.mem (1,4)=some [cL .shr t.nodes,cL .shr t.next])∧NoBox [(1,3),(1,4)] σ.mem
  obtain ⟨X_23,X_23_⟩:=exV fun (r_91:(Unit) ⊕ (Unit)) (out:Out)=>Sum.elim (fun r_91=>∃ σ:St,out=.ret σ∧(σ.env 6=uB false∧σ.mem (1,3)=some [cL .shr s.nodes,cL .shr s.next]∧σ.mem (1,4)=some [cL .shr t.nodes,cL .shr t.next])∧NoBox [(1,3),(1,4)] σ.mem) (fun r_91=>∃ σ:St,out=.exit 0 σ∧(σ.mem (1,3)=some [cL .shr s.nodes,cL .shr s.next]∧σ.mem (1,4)=some [cL .shr t.nodes,cL .shr t.next])∧NoBox [(1,3),(1,4)] σ.mem) r_91
  refine loopP ({ hd:=[2,3,4,7,8],bx:=[],ex:=[],rt:=[6] }) I_22 X_23 h_92 (by exact rfl) ?_ ?_ ?_
  ·rw [I_22_]
   exact ⟨by simp [zac,zaa,h_19],NoBox.restrict (by intro k hk hb;simp at hk hb;simp [hk,hb,h_19])⟩
  ·intro s_20 σ_24 a_21 hI hp
   rw [I_22_] at hI
   obtain ⟨q_26,hn_25⟩:=hI
   try simp [h_19,q_26]
   rcases zad hp with ⟨h_27,hp⟩|⟨h_27,hp⟩
   ·try simp at h_27
    obtain ⟨y_28,h_29,hp⟩:=zab hp
    have c_30:=zjn h_29
    simp at c_30
    obtain ⟨e_31,h_32,hp⟩:=zab hp
    cases Option.some.inj (h_7.symm.trans h_32)
    have b_33:=at_lo h_7
    have b_34:=at_hi h_7
    try simp at b_33 b_34
    have c_35:=seg_at' h_7 0 1 (by decide) (ds:=[.sc (.int .i64 e_6)]) rfl
    try simp at c_35
    obtain ⟨e_36,h_37,hp⟩:=zab hp
    have b_38:=at_lo h_37
    have b_39:=at_hi h_37
    try simp at b_38 b_39
    have c_40:=seg_at' h_37 0 1 (by decide) (ds:=[.sc (.int .i64 e_36)]) rfl
    try simp at c_40
    obtain ⟨y_41,h_42,hp⟩:=zab hp
    have c_43:=zjn h_42
    simp at c_43
    obtain ⟨y_44,h_45,hp⟩:=zab hp
    have c_46:=zpb h_45
    simp at c_46
    try simp [h_19,q_26,h_27,c_30,b_33,b_34,c_35,b_38,b_39,c_40,c_43,c_46]
    rcases zad hp with ⟨h_47,hp⟩|⟨h_47,hp⟩
    ·try simp at h_47
     obtain ⟨y_48,h_49,hp⟩:=zab hp
     have c_50:=zjn h_49
     simp at c_50
     obtain ⟨e_51,h_52,hp⟩:=zab hp
     cases Option.some.inj (h_37.symm.trans h_52)
     have b_53:=at_lo h_37
     have b_54:=at_hi h_37
     try simp at b_53 b_54
     have c_55:=seg_at' h_37 0 1 (by decide) (ds:=[.sc (.int .i64 e_36)]) rfl
     try simp at c_55
     obtain ⟨e_56,h_57,hp⟩:=zab hp
     cases Option.some.inj (h_7.symm.trans h_57)
     have b_58:=at_lo h_7
     have b_59:=at_hi h_7
     try simp at b_58 b_59
     have c_60:=seg_at' h_7 0 1 (by decide) (ds:=[.sc (.int .i64 e_6)]) rfl
     try simp at c_60
     obtain ⟨y_61,h_62,hp⟩:=zab hp
     have c_63:=zjn h_62
     simp at c_63
     obtain ⟨y_64,h_65,hp⟩:=zab hp
     have c_66:=zpb h_65
     simp at c_66
     try simp [h_19,q_26,h_27,h_47,c_50,b_53,b_54,c_55,b_58,b_59,c_60,c_63,c_66]
     rcases zad hp with ⟨h_67,hp⟩|⟨h_67,hp⟩
     ·try simp at h_67
      try simp [h_19,q_26,h_27,h_47,h_67]
      rcases zad hp with ⟨h_68,hp⟩|⟨h_68,hp⟩
      ·try simp at h_68
       obtain ⟨e_69,h_70,hp⟩:=zab hp
       cases Option.some.inj (h_37.symm.trans h_70)
       have b_71:=at_lo h_37
       have b_72:=at_hi h_37
       try simp at b_71 b_72
       have c_73:=seg_at' h_37 0 1 (by decide) (ds:=[.sc (.int .i64 e_36)]) rfl
       try simp at c_73
       obtain ⟨e_74,h_75,hp⟩:=zab hp
       cases Option.some.inj (h_7.symm.trans h_75)
       have b_76:=at_lo h_7
       have b_77:=at_hi h_7
       try simp at b_76 b_77
       have c_78:=seg_at' h_7 0 1 (by decide) (ds:=[.sc (.int .i64 e_6)]) rfl
       try simp at c_78
       try simp [h_19,q_26,h_27,h_47,h_67,h_68,b_71,b_72,c_73,b_76,b_77,c_78]
       rcases zad hp with ⟨h_79,hp⟩|⟨h_79,hp⟩
       ·try simp at h_79
        obtain ⟨e_80,h_81,hp⟩:=zab hp
        cases Option.some.inj (h_7.symm.trans h_81)
        have b_82:=at_lo h_7
        have b_83:=at_hi h_7
        try simp at b_82 b_83
        have c_84:=seg_at' h_7 0 1 (by decide) (ds:=[.sc (.int .i64 e_6)]) rfl
        try simp at c_84
        obtain ⟨e_85,h_86,hp⟩:=zab hp
        cases Option.some.inj (h_12.symm.trans h_86)
        have b_87:=at_lo h_12
        have b_88:=at_hi h_12
        try simp at b_87 b_88
        have c_89:=seg_at' h_12 3 1 (by decide) (ds:=[.sc (.int .i64 e_11.many)]) rfl
        try simp at c_89
        try simp [h_19,q_26,h_27,h_47,h_67,h_68,h_79,b_82,b_83,c_84,b_87,b_88,c_89]
        rcases zad hp with ⟨h_90,hp⟩|⟨h_90,hp⟩
        ·try simp at h_90
         cases hp
         try simp [h_19,q_26,h_27,h_47,h_67,h_68,h_79,h_90]
         refine zal ?_
         rw [X_23_]
         exact ⟨_,rfl,by simp [zac,zaa,h_19,q_26,h_27,h_47,h_67,h_68,h_79,h_90],NoBox.restrict (by intro k hk hb;simp at hk hb;simp [hk,hb,h_19,q_26,h_27,h_47,h_67,h_68,h_79,h_90,hn_25 k (by simp [hk,hb])])⟩
        ·try simp at h_90
         cases hp
         try simp [h_19,q_26,h_27,h_47,h_67,h_68,h_79,h_90]
         refine zae ?_
         rw [I_22_]
         exact ⟨by simp [zac,zaa,h_19,q_26,h_27,h_47,h_67,h_68,h_79,h_90],NoBox.restrict (by intro k hk hb;simp at hk hb;simp [hk,hb,h_19,q_26,h_27,h_47,h_67,h_68,h_79,h_90,hn_25 k (by simp [hk,hb])])⟩
       ·try simp at h_79
        cases hp
        try simp [h_19,q_26,h_27,h_47,h_67,h_68,h_79]
        refine zae ?_
        rw [I_22_]
        exact ⟨by simp [zac,zaa,h_19,q_26,h_27,h_47,h_67,h_68,h_79],NoBox.restrict (by intro k hk hb;simp at hk hb;simp [hk,hb,h_19,q_26,h_27,h_47,h_67,h_68,h_79,hn_25 k (by simp [hk,hb])])⟩
      ·try simp at h_68
       cases hp
       try simp [h_19,q_26,h_27,h_47,h_67,h_68]
       refine zae ?_
       rw [I_22_]
       exact ⟨by simp [zac,zaa,h_19,q_26,h_27,h_47,h_67,h_68],NoBox.restrict (by intro k hk hb;simp at hk hb;simp [hk,hb,h_19,q_26,h_27,h_47,h_67,h_68,hn_25 k (by simp [hk,hb])])⟩
     ·try simp at h_67
      cases hp
      try simp [h_19,q_26,h_27,h_47,h_67]
      refine zal ?_
      rw [X_23_]
      exact ⟨_,rfl,by simp [zac,zaa,h_19,q_26,h_27,h_47,h_67],NoBox.restrict (by intro k hk hb;simp at hk hb;simp [hk,hb,h_19,q_26,h_27,h_47,h_67,hn_25 k (by simp [hk,hb])])⟩
    ·try simp at h_47
     cases hp
     try simp [h_19,q_26,h_27,h_47]
     refine zal ?_
     rw [X_23_]
     exact ⟨_,rfl,by simp [zac,zaa,h_19,q_26,h_27,h_47],NoBox.restrict (by intro k hk hb;simp at hk hb;simp [hk,hb,h_19,q_26,h_27,h_47,hn_25 k (by simp [hk,hb])])⟩
   ·try simp at h_27
    cases hp
    try simp [h_19,q_26,h_27]
    refine zag ?_
    rw [X_23_]
    exact ⟨_,rfl,by simp [zac,zaa,h_19,q_26,h_27],NoBox.restrict (by intro k hk hb;simp at hk hb;simp [hk,hb,h_19,q_26,h_27,hn_25 k (by simp [hk,hb])])⟩
  ·intro out hX
   rw [X_23_] at hX
   rcases r_91 with r_91 | r_91
   ·simp only [Sum.elim_inl,Sum.elim_inr] at hX hp
    obtain ⟨σ_93,rfl,q_95,hn_94⟩:=hX
    cases hp
    simp [Goal,FnEnd,h_19,q_95]
   ·simp only [Sum.elim_inl,Sum.elim_inr] at hX hp
    obtain ⟨σ_96,rfl,q_98,hn_97⟩:=hX
    cases hp
    simp [Goal,FnEnd,h_19,q_98]
 ·try simp at h_19
  cases hp
  simp [Goal,FnEnd,h_19]
theorem pc143:PC Tryz.prog 143 C143:=pc_of (g:=g143) (zai _ g143_s.2.1 ⟨pc103,pc157,pc158,trivial⟩) (ent Tryz.func143) fun x y h=>w143 h

def C142:List AV→Option AV:=specP (X:=TStructure × TStructure × (List Int) × Unit) fun x=>zdf x.1 x.2.1 x.2.2.1
theorem C142_eq {s t to_} {y} (h:zdf s t to_=some y):C142 [av .shr s,av .shr t,av .shr to_]=some (Res.res y):=zah (x:=(s,t,to_,())) h
def g142:Cfg:={ P:=Tryz.prog,take:=[],keep:=[((142,4),{ hd:=[2,3,4,7],bx:=[],ex:=[2,4],rt:=[6] }),((142,9),{ hd:=[2,4,8],bx:=[],ex:=[],rt:=[6] })],gho:=[],ctx:=[(66,C66),(87,C87),(143,C143)] }
@[simp] theorem g142_s:type_of% (cfg_s (g:=g142) rfl):=cfg_s rfl
theorem w142 {s t to_} {y} (hp:zdf s t to_=some y):∃ m,callo g142 0 142 [av .shr s,av .shr t,av .shr to_] mem0=some (Res.res y,m):=by
 refine st0 [.tmp 6] Tryz.func142 ?_
 unfold zdf at hp
 simp [Tryz.f142]
 rcases zad hp with ⟨h_1,hp⟩|⟨h_1,hp⟩
 ·try simp at h_1
  cases hp
  simp [Goal,FnEnd,h_1]
 ·try simp at h_1
  try simp [h_1]
  obtain ⟨r_30,h_31,hp⟩:=zab hp
  obtain ⟨I_4,I_4_⟩:=exV fun (s_2:Int) (σ:St)=>(σ.env 2=uL .shr to_∧σ.env 3=uP (1,3)∧σ.env 4=uP (1,4)∧σ.env 7=uI s_2∧σ.mem (1,3)=some [cL .shr s.nodes,cL .shr s.next]∧σ.mem (1,4)=some [cL .shr t.nodes,cL .shr t.next])∧NoBox [(1,3),(1,4)] σ.mem
  obtain ⟨X_5,X_5_⟩:=exV fun (r_30:(Unit) ⊕ (Unit)) (out:Out)=>Sum.elim (fun r_30=>∃ σ:St,out=.ret σ∧(σ.env 6=uB false∧σ.mem (1,3)=some [cL .shr s.nodes,cL .shr s.next]∧σ.mem (1,4)=some [cL .shr t.nodes,cL .shr t.next])∧NoBox [(1,3),(1,4)] σ.mem) (fun r_30=>∃ σ:St,out=.exit 0 σ∧(σ.env 2=uL .shr to_∧σ.env 4=uP (1,4)∧σ.mem (1,3)=some [cL .shr s.nodes,cL .shr s.next]∧σ.mem (1,4)=some [cL .shr t.nodes,cL .shr t.next])∧NoBox [(1,3),(1,4)] σ.mem) r_30
  refine loopP ({ hd:=[2,3,4,7],bx:=[],ex:=[2,4],rt:=[6] }) I_4 X_5 h_31 (by exact rfl) ?_ ?_ ?_
  ·rw [I_4_]
   exact ⟨by simp [zac,zaa,h_1],NoBox.restrict (by intro k hk hb;simp at hk hb;simp [hk,hb,h_1])⟩
  ·intro s_2 σ_6 a_3 hI hp
   rw [I_4_] at hI
   obtain ⟨q_8,hn_7⟩:=hI
   try simp [h_1,q_8]
   rcases zad hp with ⟨h_9,hp⟩|⟨h_9,hp⟩
   ·try simp at h_9
    obtain ⟨e_10,h_11,hp⟩:=zab hp
    have b_12:=at_lo h_11
    have b_13:=at_hi h_11
    try simp at b_12 b_13
    have c_14:=seg_at' h_11 0 1 (by decide) (ds:=[.sc (.int .i64 e_10)]) rfl
    try simp at c_14
    obtain ⟨y_15,h_16,hp⟩:=zab hp
    have c_17:=zfw h_16
    simp at c_17
    try simp [h_1,q_8,h_9,b_12,b_13,c_14,c_17]
    rcases zad hp with ⟨h_18,hp⟩|⟨h_18,hp⟩
    ·try simp at h_18
     obtain ⟨z_19,h_20,hp⟩:=zab hp
     have c_22:=slc_1 h_20
     have c_23:=slc_2 h_20
     have c_24:=slc_3 h_20
     have c_25:=slc_4 h_20
     try simp at c_22 c_23 c_24
     try simp [c_24] at c_25
     obtain ⟨y_26,h_27,hp⟩:=zab hp
     have c_28:=C143_eq h_27
     simp at c_28
     try simp [h_1,q_8,h_9,h_18,c_22,c_23,c_24,c_25,c_28]
     rcases zad hp with ⟨h_29,hp⟩|⟨h_29,hp⟩
     ·try simp at h_29
      cases hp
      try simp [h_1,q_8,h_9,h_18,h_29]
      refine zae ?_
      rw [I_4_]
      exact ⟨by simp [zac,zaa,h_1,q_8,h_9,h_18,h_29],NoBox.restrict (by intro k hk hb;simp at hk hb;simp [hk,hb,h_1,q_8,h_9,h_18,h_29,hn_7 k (by simp [hk,hb])])⟩
     ·try simp at h_29
      cases hp
      try simp [h_1,q_8,h_9,h_18,h_29]
      refine zal ?_
      rw [X_5_]
      exact ⟨_,rfl,by simp [zac,zaa,h_1,q_8,h_9,h_18,h_29],NoBox.restrict (by intro k hk hb;simp at hk hb;simp [hk,hb,h_1,q_8,h_9,h_18,h_29,hn_7 k (by simp [hk,hb])])⟩
    ·try simp at h_18
     cases hp
     try simp [h_1,q_8,h_9,h_18]
     refine zal ?_
     rw [X_5_]
     exact ⟨_,rfl,by simp [zac,zaa,h_1,q_8,h_9,h_18],NoBox.restrict (by intro k hk hb;simp at hk hb;simp [hk,hb,h_1,q_8,h_9,h_18,hn_7 k (by simp [hk,hb])])⟩
   ·try simp at h_9
    cases hp
    try simp [h_1,q_8,h_9]
    refine zag ?_
    rw [X_5_]
    exact ⟨_,rfl,by simp [zac,zaa,h_1,q_8,h_9],NoBox.restrict (by intro k hk hb;simp at hk hb;simp [hk,hb,h_1,q_8,h_9,hn_7 k (by simp [hk,hb])])⟩
  ·intro out hX
   rw [X_5_] at hX
   rcases r_30 with r_30 | r_30
   ·simp only [Sum.elim_inl,Sum.elim_inr] at hX hp
    obtain ⟨σ_32,rfl,q_34,hn_33⟩:=hX
    cases hp
    simp [Goal,FnEnd,h_1,q_34]
   ·simp only [Sum.elim_inl,Sum.elim_inr] at hX hp
    obtain ⟨σ_35,rfl,q_37,hn_36⟩:=hX
    try simp [h_1,q_37]
    obtain ⟨r_50,h_51,hp⟩:=zab hp
    obtain ⟨I_40,I_40_⟩:=exV fun (s_38:Int) (σ:St)=>(σ.env 2=uL .shr to_∧σ.env 4=uP (1,4)∧σ.env 8=uI s_38∧σ.mem (1,3)=some [cL .shr s.nodes,cL .shr s.next]∧σ.mem (1,4)=some [cL .shr t.nodes,cL .shr t.next])∧NoBox [(1,3),(1,4)] σ.mem
    obtain ⟨X_41,X_41_⟩:=exV fun (r_50:(Bool) ⊕ (Unit)) (out:Out)=>Sum.elim (fun r_50=>∃ σ:St,out=.ret σ∧(σ.env 6=uB r_50∧σ.mem (1,3)=some [cL .shr s.nodes,cL .shr s.next]∧σ.mem (1,4)=some [cL .shr t.nodes,cL .shr t.next])∧NoBox [(1,3),(1,4)] σ.mem) (fun r_50=>∃ σ:St,out=.exit 2 σ∧(σ.mem (1,3)=some [cL .shr s.nodes,cL .shr s.next]∧σ.mem (1,4)=some [cL .shr t.nodes,cL .shr t.next])∧NoBox [(1,3),(1,4)] σ.mem) r_50
    refine loopP ({ hd:=[2,4,8],bx:=[],ex:=[],rt:=[6] }) I_40 X_41 h_51 (by exact rfl) ?_ ?_ ?_
    ·rw [I_40_]
     exact ⟨by simp [zac,zaa,h_1,q_37],NoBox.restrict (by intro k hk hb;simp at hk hb;simp [hk,hb,h_1,q_37,hn_36 k (by simp [hk,hb])])⟩
    ·intro s_38 σ_42 a_39 hI hp
     rw [I_40_] at hI
     obtain ⟨q_44,hn_43⟩:=hI
     try simp [h_1,q_44]
     rcases zad hp with ⟨h_45,hp⟩|⟨h_45,hp⟩
     ·try simp at h_45
      obtain ⟨y_46,h_47,hp⟩:=zab hp
      have c_48:=C87_eq h_47
      simp at c_48
      try simp [h_1,q_44,h_45,c_48]
      rcases zad hp with ⟨h_49,hp⟩|⟨h_49,hp⟩
      ·try simp at h_49
       cases hp
       try simp [h_1,q_44,h_45,h_49]
       refine zae ?_
       rw [I_40_]
       exact ⟨by simp [zac,zaa,h_1,q_44,h_45,h_49],NoBox.restrict (by intro k hk hb;simp at hk hb;simp [hk,hb,h_1,q_44,h_45,h_49,hn_43 k (by simp [hk,hb])])⟩
      ·try simp at h_49
       cases hp
       try simp [h_1,q_44,h_45,h_49]
       refine zal ?_
       rw [X_41_]
       exact ⟨_,rfl,by simp [zac,zaa,h_1,q_44,h_45,h_49],NoBox.restrict (by intro k hk hb;simp at hk hb;simp [hk,hb,h_1,q_44,h_45,h_49,hn_43 k (by simp [hk,hb])])⟩
     ·try simp at h_45
      cases hp
      try simp [h_1,q_44,h_45]
      refine zag ?_
      rw [X_41_]
      exact ⟨_,rfl,by simp [zac,zaa,h_1,q_44,h_45],NoBox.restrict (by intro k hk hb;simp at hk hb;simp [hk,hb,h_1,q_44,h_45,hn_43 k (by simp [hk,hb])])⟩
    ·intro out hX
     rw [X_41_] at hX
     rcases r_50 with r_50 | r_50
     ·simp only [Sum.elim_inl,Sum.elim_inr] at hX hp
      obtain ⟨σ_52,rfl,q_54,hn_53⟩:=hX
      cases hp
      simp [Goal,FnEnd,h_1,q_54]
     ·simp only [Sum.elim_inl,Sum.elim_inr] at hX hp
      obtain ⟨σ_55,rfl,q_57,hn_56⟩:=hX
      cases hp
      simp [Goal,FnEnd,h_1,q_57]
theorem pc142:PC Tryz.prog 142 C142:=pc_of (g:=g142) (zai _ g142_s.2.1 ⟨pc66,pc87,pc143,trivial⟩) (ent Tryz.func142) fun x y h=>w142 h

abbrev G114 (g:Cfg):Prop:=Has Tryz.prog g 114 Tryz.f114 [41] [(4,{ hd:=[2,3,4,8],bx:=[],ex:=[],rt:=[6,7] })] [(142,C142),(143,C143)] []
theorem wI114 {g:Cfg} (G:G114 g) (fu:Nat):∀ {d:Nat} {mem:Mem} (hT:Tight d mem)  {s:TStructure} {t:TStructure} {to_:(List Int)} {m_0:Md} (hm_0:LentM m_0) {m_1:Md} (hm_1:LentM m_1) {m_2:Md} (hm_2:LentM m_2) {y} (hp:fixN zbv fu (s,t,to_,())=some y),∃ r,callo g d 114 [av m_0 s,av m_1 t,av m_2 to_] mem=some (r,mem)∧∃ me_0:Md,r=.tu [tupM me_0 y.1,tup y.2]:=by
 have gP:=G.P;have gt:=G.tk;have gr:=G.ro;have gg:=G.gh
 have i_114:=G.no
 have k_4:=G.kp (4,{ hd:=[2,3,4,8],bx:=[],ex:=[],rt:=[6,7] }) (by simp)
 have c_142:=G.cs (142,C142) (by simp)
 have c_143:=G.cs (143,C143) (by simp)
 induction fu with
 | zero=>intros;exact absurd ‹fixN _ 0 _=some _› (by simp [fixN])
 | succ fu ih =>
  intro d mem hT s t to_ m_0 hm_0 m_1 hm_1 m_2 hm_2 y hp
  have hT2:memKill (fun k=>decide (d < k.1)) mem=mem:=hT
  have hm0:∀ t,mem (d+1,t)=none:=fun t=>hT.none (by simp)
  refine zqg (Tryz.f114.body.getD .skip) [.tmp 6,.tmp 7] G Tryz.func114 (by kernel_rfl) (by simp [Tryz.ntmps114]) rfl ?_
  replace hp:zdp (fun s t to_=>fixN zbv fu (s,t,to_,())) s t to_=some y:=hp
  unfold zdp at hp
  simp [Tryz.f114,gP,gt,gr,gg,hm0,i_114,hm_0.copy,hm_0.elem,hm_1.copy,hm_1.elem,hm_2.copy,hm_2.elem]
  rcases zad hp with ⟨h_1,hp⟩|⟨h_1,hp⟩
  ·try simp at h_1
   obtain ⟨y_2,h_3,hp⟩:=zab hp
   have c_4:=C142_eq h_3
   simp at c_4
   cases hp
   simp [Goal,FnEndE,zax,retR,rsrc,RSrc.val,nodupR,nodup,tupPart,gP,gt,gr,gg,hm0,c_142,i_114,hm_0.copy,hm_0.elem,hm_1.copy,hm_1.elem,hm_2.copy,hm_2.elem,h_1,c_4,hT2]
  ·try simp at h_1
   try simp [gP,gt,gr,gg,hm0,c_142,c_143,i_114,hm_0.copy,hm_0.elem,hm_1.copy,hm_1.elem,hm_2.copy,hm_2.elem,h_1]
   obtain ⟨r_27,h_28,hp⟩:=zab hp
   obtain ⟨I_7,I_7_⟩:=exV fun (s_5:Int) (σ:St)=>(σ.env 2=uL m_2 to_∧σ.env 3=uP (d+1,3)∧σ.env 4=uP (d+1,4)∧σ.env 8=uI s_5∧σ.mem (d+1,3)=some [cL m_0 s.nodes,cL m_0 s.next]∧σ.mem (d+1,4)=some [cL m_1 t.nodes,cL m_1 t.next])∧Tight (d+1) σ.mem∧Agree d mem σ.mem∧NoBoxD d [(d+1,3),(d+1,4)] σ.mem
   obtain ⟨X_8,X_8_⟩:=exV fun (r_27:((List Int) × Bool) ⊕ (Unit)) (out:Out)=>Sum.elim (fun r_27=>∃ σ:St,out=.ret σ∧(σ.env 7=uB r_27.2∧σ.mem (d+1,3)=some [cL m_0 s.nodes,cL m_0 s.next]∧σ.mem (d+1,4)=some [cL m_1 t.nodes,cL m_1 t.next])∧(∃ mq_29:Md,σ.env 6=uL mq_29 r_27.1)∧Tight (d+1) σ.mem∧Agree d mem σ.mem∧NoBoxD d [(d+1,3),(d+1,4)] σ.mem) (fun r_27=>∃ σ:St,out=.exit 0 σ∧(σ.mem (d+1,3)=some [cL m_0 s.nodes,cL m_0 s.next]∧σ.mem (d+1,4)=some [cL m_1 t.nodes,cL m_1 t.next])∧Tight (d+1) σ.mem∧Agree d mem σ.mem∧NoBoxD d [(d+1,3),(d+1,4)] σ.mem) r_27
   refine loopP ({ hd:=[2,3,4,8],bx:=[],ex:=[],rt:=[6,7] }) I_7 X_8 h_28 (by exact k_4) ?_ ?_ ?_
   ·rw [I_7_]
    exact ⟨by simp [zac,zaa,gP,gt,gr,gg,hm0,c_142,c_143,i_114,hm_0.copy,hm_0.elem,hm_1.copy,hm_1.elem,hm_2.copy,hm_2.elem,h_1],(by repeat (first | exact zan _ | exact hT.up | exact hT | refine Tight.restrict ?_ | refine Tight.upd ?_ (by simp) (by simp) | refine Tight.killB ?_ | refine zar ?_)),(by repeat (first | exact fun k hk=>rfl | refine Agree.restrict hT ?_ | refine Agree.upd ?_ (by simp))),NoBoxD.restrict (by intro k hd hk hb;simp at hk hb;simp [hk,hb,gP,gt,gr,gg,hm0,c_142,c_143,i_114,hm_0.copy,hm_0.elem,hm_1.copy,hm_1.elem,hm_2.copy,hm_2.elem,h_1,hT.none hd])⟩
   ·intro s_5 σ_9 a_6 hI hp
    rw [I_7_] at hI
    obtain ⟨q_13,ht_10,ha_11,hn_12⟩:=hI
    try simp [gP,gt,gr,gg,hm0,c_142,c_143,i_114,hm_0.copy,hm_0.elem,hm_1.copy,hm_1.elem,hm_2.copy,hm_2.elem,h_1,q_13]
    rcases zad hp with ⟨h_14,hp⟩|⟨h_14,hp⟩
    ·try simp at h_14
     obtain ⟨_,h_15,hp⟩:=zab hp
     have b_16:=zap h_15
     try simp at b_16
     obtain ⟨_,h_17,hp⟩:=zab hp
     have b_18:=zap h_17
     try simp at b_18
     obtain ⟨y_19,h_20,hp⟩:=zab hp
     have c_21:=C143_eq h_20
     simp at c_21
     try simp [gP,gt,gr,gg,hm0,c_142,c_143,i_114,hm_0.copy,hm_0.elem,hm_1.copy,hm_1.elem,hm_2.copy,hm_2.elem,h_1,q_13,h_14,b_16,b_18,c_21]
     rcases zad hp with ⟨h_22,hp⟩|⟨h_22,hp⟩
     ·try simp at h_22
      obtain ⟨y_23,h_24,hp⟩:=zab hp
      try simp [gP,gt,gr,gg,hm0,c_142,c_143,i_114,hm_0.copy,hm_0.elem,hm_1.copy,hm_1.elem,hm_2.copy,hm_2.elem,h_1,q_13,h_14,h_22]
      refine zie [av m_0 s,av m_1 t,av .bor (to_ ++ [s_5])] (fun r=>∃ me_25:Md,r=.tu [tupM me_25 y_23.1,tup y_23.2]) (by simp [gP,gt,gr,gg,hm0,c_142,c_143,i_114,hm_0.copy,hm_0.elem,hm_1.copy,hm_1.elem,hm_2.copy,hm_2.elem,h_1,q_13,h_14,h_22]) (ih (by repeat (first | exact ht_10 | exact zan _ | exact hT.up | exact hT | (simp only [q_13];done) | refine Tight.upd ?_ (by simp) (by simp) | refine Tight.killB ?_ | refine zar ?_)) hm_0 hm_1 (.inr rfl) h_24) ?_
      rintro _ ⟨me_25,rfl⟩
      try simp [gP,gt,gr,gg,hm0,c_142,c_143,i_114,hm_0.copy,hm_0.elem,hm_1.copy,hm_1.elem,hm_2.copy,hm_2.elem,h_1,q_13,h_14,h_22]
      rcases zad hp with ⟨h_26,hp⟩|⟨h_26,hp⟩
      ·try simp at h_26
       cases hp
       try simp [gP,gt,gr,gg,hm0,c_142,c_143,i_114,hm_0.copy,hm_0.elem,hm_1.copy,hm_1.elem,hm_2.copy,hm_2.elem,h_1,q_13,h_14,h_22,h_26]
       refine zal ?_
       rw [X_8_]
       exact ⟨_,rfl,by simp [zac,zaa,gP,gt,gr,gg,hm0,c_142,c_143,i_114,hm_0.copy,hm_0.elem,hm_1.copy,hm_1.elem,hm_2.copy,hm_2.elem,h_1,q_13,h_14,h_22,h_26],⟨me_25.copy,by simp [zac,gP,gt,gr,gg,hm0,c_142,c_143,i_114,hm_0.copy,hm_0.elem,hm_1.copy,hm_1.elem,hm_2.copy,hm_2.elem,h_1,q_13,h_14,h_22,h_26]⟩,(by repeat (first | exact ht_10 | exact zan _ | exact hT.up | exact hT | refine Tight.restrict ?_ | refine Tight.upd ?_ (by simp) (by simp) | refine Tight.killB ?_ | refine zar ?_)),(by repeat (first | exact ha_11 | exact fun k hk=>rfl | refine Agree.restrict hT ?_ | refine Agree.upd ?_ (by simp))),NoBoxD.restrict (by intro k hd hk hb;simp at hk hb;simp [hk,hb,gP,gt,gr,gg,hm0,c_142,c_143,i_114,hm_0.copy,hm_0.elem,hm_1.copy,hm_1.elem,hm_2.copy,hm_2.elem,h_1,q_13,h_14,h_22,h_26,hn_12 k hd (by simp [hk,hb])])⟩
      ·try simp at h_26
       cases hp
       try simp [gP,gt,gr,gg,hm0,c_142,c_143,i_114,hm_0.copy,hm_0.elem,hm_1.copy,hm_1.elem,hm_2.copy,hm_2.elem,h_1,q_13,h_14,h_22,h_26]
       refine zae ?_
       rw [I_7_]
       exact ⟨by simp [zac,zaa,gP,gt,gr,gg,hm0,c_142,c_143,i_114,hm_0.copy,hm_0.elem,hm_1.copy,hm_1.elem,hm_2.copy,hm_2.elem,h_1,q_13,h_14,h_22,h_26],(by repeat (first | exact ht_10 | exact zan _ | exact hT.up | exact hT | refine Tight.restrict ?_ | refine Tight.upd ?_ (by simp) (by simp) | refine Tight.killB ?_ | refine zar ?_)),(by repeat (first | exact ha_11 | exact fun k hk=>rfl | refine Agree.restrict hT ?_ | refine Agree.upd ?_ (by simp))),NoBoxD.restrict (by intro k hd hk hb;simp at hk hb;simp [hk,hb,gP,gt,gr,gg,hm0,c_142,c_143,i_114,hm_0.copy,hm_0.elem,hm_1.copy,hm_1.elem,hm_2.copy,hm_2.elem,h_1,q_13,h_14,h_22,h_26,hn_12 k hd (by simp [hk,hb])])⟩
     ·try simp at h_22
      cases hp
      try simp [gP,gt,gr,gg,hm0,c_142,c_143,i_114,hm_0.copy,hm_0.elem,hm_1.copy,hm_1.elem,hm_2.copy,hm_2.elem,h_1,q_13,h_14,h_22]
      refine zae ?_
      rw [I_7_]
      exact ⟨by simp [zac,zaa,gP,gt,gr,gg,hm0,c_142,c_143,i_114,hm_0.copy,hm_0.elem,hm_1.copy,hm_1.elem,hm_2.copy,hm_2.elem,h_1,q_13,h_14,h_22],(by repeat (first | exact ht_10 | exact zan _ | exact hT.up | exact hT | refine Tight.restrict ?_ | refine Tight.upd ?_ (by simp) (by simp) | refine Tight.killB ?_ | refine zar ?_)),(by repeat (first | exact ha_11 | exact fun k hk=>rfl | refine Agree.restrict hT ?_ | refine Agree.upd ?_ (by simp))),NoBoxD.restrict (by intro k hd hk hb;simp at hk hb;simp [hk,hb,gP,gt,gr,gg,hm0,c_142,c_143,i_114,hm_0.copy,hm_0.elem,hm_1.copy,hm_1.elem,hm_2.copy,hm_2.elem,h_1,q_13,h_14,h_22,hn_12 k hd (by simp [hk,hb])])⟩
    ·try simp at h_14
     cases hp
     try simp [gP,gt,gr,gg,hm0,c_142,c_143,i_114,hm_0.copy,hm_0.elem,hm_1.copy,hm_1.elem,hm_2.copy,hm_2.elem,h_1,q_13,h_14]
     refine zag ?_
     rw [X_8_]
     exact ⟨_,rfl,by simp [zac,zaa,gP,gt,gr,gg,hm0,c_142,c_143,i_114,hm_0.copy,hm_0.elem,hm_1.copy,hm_1.elem,hm_2.copy,hm_2.elem,h_1,q_13,h_14],(by repeat (first | exact ht_10 | exact zan _ | exact hT.up | exact hT | refine Tight.restrict ?_ | refine Tight.upd ?_ (by simp) (by simp) | refine Tight.killB ?_ | refine zar ?_)),(by repeat (first | exact ha_11 | exact fun k hk=>rfl | refine Agree.restrict hT ?_ | refine Agree.upd ?_ (by simp))),NoBoxD.restrict (by intro k hd hk hb;simp at hk hb;simp [hk,hb,gP,gt,gr,gg,hm0,c_142,c_143,i_114,hm_0.copy,hm_0.elem,hm_1.copy,hm_1.elem,hm_2.copy,hm_2.elem,h_1,q_13,h_14,hn_12 k hd (by simp [hk,hb])])⟩
   ·intro out hX
    rw [X_8_] at hX
    rcases r_27 with r_27 | r_27
    ·simp only [Sum.elim_inl,Sum.elim_inr] at hX hp
     obtain ⟨σ_30,rfl,q_35,⟨mq_29,q_31⟩,ht_32,ha_33,hn_34⟩:=hX
     cases hp
     simp [Goal,FnEndE,zax,retR,rsrc,RSrc.val,nodupR,nodup,tupPart,gP,gt,gr,gg,hm0,c_142,c_143,i_114,hm_0.copy,hm_0.elem,hm_1.copy,hm_1.elem,hm_2.copy,hm_2.elem,h_1,q_35,q_31,zje ha_33 hT]
    ·simp only [Sum.elim_inl,Sum.elim_inr] at hX hp
     obtain ⟨σ_36,rfl,q_40,ht_37,ha_38,hn_39⟩:=hX
     cases hp
     simp [Goal,FnEndE,zax,retR,rsrc,RSrc.val,nodupR,nodup,tupPart,gP,gt,gr,gg,hm0,c_142,c_143,i_114,hm_0.copy,hm_0.elem,hm_1.copy,hm_1.elem,hm_2.copy,hm_2.elem,h_1,q_40,zje ha_38 hT]

def C74:List AV→Option AV:=specP (X:=TStructure × TStructure × Unit) fun x=>zce x.1 x.2.1
theorem C74_eq {s t} {y} (h:zce s t=some y):C74 [av .shr s,av .shr t]=some (Res.res y):=zah (x:=(s,t,())) h
def g74:Cfg:={ P:=Tryz.prog,take:=[(74,8),(114,41)],keep:=[((114,4),{ hd:=[2,3,4,8],bx:=[],ex:=[],rt:=[6,7] })],gho:=[],ctx:=[(142,C142),(143,C143)] }
@[simp] theorem g74_s:type_of% (cfg_s (g:=g74) rfl):=cfg_s rfl
theorem w74 {s t} {y} (hp:zce s t=some y):∃ m,callo g74 0 74 [av .shr s,av .shr t] mem0=some (Res.res y,m):=by
 have G_114:G114 g74:=⟨rfl,by kernel_rfl,rfl,fun t=>by simp,noAway (fun t=>by simp) (by simp) (fun t=>by simp),by simp [lookN],fun i=>by simp [lookK],by simp [g74,lookK],by simp⟩
 refine st0 [.tmp 4,.tmp 5] Tryz.func74 ?_
 unfold zce at hp
 obtain ⟨y_1,h_2,hp⟩:=zab hp
 simp [Tryz.f74]
 refine zie [av .shr s,av .shr t,av .bor []] (fun r=>∃ me_3:Md,r=.tu [tupM me_3 y_1.1,tup y_1.2]) (by simp) (wI114 G_114 _ (by repeat (first | exact zan _ | exact hT.up | exact hT | (simp only [true_and];done) | refine Tight.upd ?_ (by simp) (by simp) | refine Tight.killB ?_ | refine zar ?_)) (.inl rfl) (.inl rfl) (.inr rfl) (zok h_2).choose_spec) ?_
 rintro _ ⟨me_3,rfl⟩
 try simp
 rcases zad hp with ⟨h_4,hp⟩|⟨h_4,hp⟩
 ·try simp at h_4
  obtain ⟨_,h_5,hp⟩:=zab hp
  have b_6:=zap h_5
  try simp at b_6
  cases hp
  simp [Goal,FnEnd,retR,rsrc,RSrc.val,nodupR,nodup,tupPart,h_4,b_6]
 ·try simp at h_4
  cases hp
  simp [Goal,FnEnd,retR,rsrc,RSrc.val,nodupR,nodup,tupPart,h_4]
theorem pc74:PC Tryz.prog 74 C74:=pc_of (g:=g74) (zai _ g74_s.2.1 ⟨pc142,pc143,trivial⟩) (ent Tryz.func74) fun x y h=>w74 h

def C33:List AV→Option AV:=specP (X:=TStructure × TStructure × Unit) fun x=>zdr x.1 x.2.1
theorem C33_eq {s t} {y} (h:zdr s t=some y):C33 [av .shr s,av .shr t]=some (Res.res y):=zah (x:=(s,t,())) h
def g33:Cfg:={ P:=Tryz.prog,take:=[(33,7)],keep:=[],gho:=[],ctx:=[(74,C74)] }
@[simp] theorem g33_s:type_of% (cfg_s (g:=g33) rfl):=cfg_s rfl
theorem w33 {s t} {y} (hp:zdr s t=some y):∃ m,callo g33 0 33 [av .shr s,av .shr t] mem0=some (Res.res y,m):=by
 refine st0 [.tmp 4] Tryz.func33 ?_
 unfold zdr at hp
 obtain ⟨y_1,h_2,hp⟩:=zab hp
 have c_3:=C74_eq h_2
 simp at c_3
 cases hp
 simp [Tryz.f33,Goal,FnEnd,c_3]
theorem pc33:PC Tryz.prog 33 C33:=pc_of (g:=g33) (zai _ g33_s.2.1 ⟨pc74,trivial⟩) (ent Tryz.func33) fun x y h=>w33 h

def C18:List AV→Option AV:=specP (X:=TStructure × THeap × Unit) fun x=>zbu x.1 x.2.1
theorem C18_eq {t h_} {y} (h:zbu t h_=some y):C18 [av .shr t,av .shr h_]=some (Res.res y):=zah (x:=(t,h_,())) h
def g18:Cfg:={ P:=Tryz.prog,take:=[],keep:=[],gho:=[],ctx:=[(33,C33),(45,C45)] }
@[simp] theorem g18_s:type_of% (cfg_s (g:=g18) rfl):=cfg_s rfl
theorem w18 {t h_} {y} (hp:zbu t h_=some y):∃ m,callo g18 0 18 [av .shr t,av .shr h_] mem0=some (Res.res y,m):=by
 refine st0 [.tmp 4] Tryz.func18 ?_
 unfold zbu at hp
 obtain ⟨y_1,h_2,hp⟩:=zab hp
 have c_3:=C45_eq h_2
 simp at c_3
 obtain ⟨y_4,h_5,hp⟩:=zab hp
 have c_6:=C33_eq h_5
 simp at c_6
 cases hp
 simp [Tryz.f18,Goal,FnEnd,c_3,c_6]
theorem pc18:PC Tryz.prog 18 C18:=pc_of (g:=g18) (zai _ g18_s.2.1 ⟨pc33,pc45,trivial⟩) (ent Tryz.func18) fun x y h=>w18 h

def C19:List AV→Option AV:=specP (X:=(List TStructure) × THeap × Unit) fun x=>zbf x.1 x.2.1
theorem C19_eq {set h_} {y} (h:zbf set h_=some y):C19 [av .shr set,av .shr h_]=some (Res.res y):=zah (x:=(set,h_,())) h
def g19:Cfg:={ P:=Tryz.prog,take:=[],keep:=[((19,2),{ hd:=[0,3,5],bx:=[],ex:=[],rt:=[4] })],gho:=[],ctx:=[(18,C18)] }
@[simp] theorem g19_s:type_of% (cfg_s (g:=g19) rfl):=cfg_s rfl
theorem w19 {set h_} {y} (hp:zbf set h_=some y):∃ m,callo g19 0 19 [av .shr set,av .shr h_] mem0=some (Res.res y,m):=by
 refine st0 [.tmp 4] Tryz.func19 ?_
 unfold zbf at hp
 simp [Tryz.f19]
 obtain ⟨r_18,h_19,hp⟩:=zab hp
 obtain ⟨I_3,I_3_⟩:=exV fun (s_1:Int) (σ:St)=>(σ.env 0=uL .shr set∧σ.env 3=uP (1,3)∧σ.env 5=uI s_1∧σ.mem (1,3)=some [cL .shr h_.vars,cL .shr h_.next])∧NoBox [(1,3)] σ.mem
 obtain ⟨X_4,X_4_⟩:=exV fun (r_18:(Bool) ⊕ (Unit)) (out:Out)=>Sum.elim (fun r_18=>∃ σ:St,out=.ret σ∧(σ.env 4=uB r_18∧σ.mem (1,3)=some [cL .shr h_.vars,cL .shr h_.next])∧NoBox [(1,3)] σ.mem) (fun r_18=>∃ σ:St,out=.exit 0 σ∧σ.mem (1,3)=some [cL .shr h_.vars,cL .shr h_.next]∧NoBox [(1,3)] σ.mem) r_18
 refine loopP ({ hd:=[0,3,5],bx:=[],ex:=[],rt:=[4] }) I_3 X_4 h_19 (by exact rfl) ?_ ?_ ?_
 ·rw [I_3_]
  exact ⟨by simp [zac,zaa],NoBox.restrict (by intro k hk hb;simp at hk hb;simp [hk,hb])⟩
 ·intro s_1 σ_5 a_2 hI hp
  rw [I_3_] at hI
  obtain ⟨q_7,hn_6⟩:=hI
  try simp [q_7]
  rcases zad hp with ⟨h_8,hp⟩|⟨h_8,hp⟩
  ·try simp at h_8
   obtain ⟨e_9,h_10,hp⟩:=zab hp
   have b_11:=at_lo h_10
   have b_12:=at_hi h_10
   try simp at b_11 b_12
   have c_13:=seg_at' h_10 0 2 (by decide) (ds:=[.sl e_9.nodes.length (encL e_9.nodes),.sl e_9.next.length (encL e_9.next)]) rfl
   try simp at c_13
   obtain ⟨y_14,h_15,hp⟩:=zab hp
   have c_16:=C18_eq h_15
   simp at c_16
   try simp [q_7,h_8,b_11,b_12,c_13,c_16]
   rcases zad hp with ⟨h_17,hp⟩|⟨h_17,hp⟩
   ·try simp at h_17
    cases hp
    try simp [q_7,h_8,h_17]
    refine zal ?_
    rw [X_4_]
    exact ⟨_,rfl,by simp [zac,zaa,q_7,h_8,h_17],NoBox.restrict (by intro k hk hb;simp at hk hb;simp [hk,hb,q_7,h_8,h_17,hn_6 k (by simp [hk,hb])])⟩
   ·try simp at h_17
    cases hp
    try simp [q_7,h_8,h_17]
    refine zae ?_
    rw [I_3_]
    exact ⟨by simp [zac,zaa,q_7,h_8,h_17],NoBox.restrict (by intro k hk hb;simp at hk hb;simp [hk,hb,q_7,h_8,h_17,hn_6 k (by simp [hk,hb])])⟩
  ·try simp at h_8
   cases hp
   try simp [q_7,h_8]
   refine zag ?_
   rw [X_4_]
   exact ⟨_,rfl,by simp [zac,zaa,q_7,h_8],NoBox.restrict (by intro k hk hb;simp at hk hb;simp [hk,hb,q_7,h_8,hn_6 k (by simp [hk,hb])])⟩
 ·intro out hX
  rw [X_4_] at hX
  rcases r_18 with r_18 | r_18
  ·simp only [Sum.elim_inl,Sum.elim_inr] at hX hp
   obtain ⟨σ_20,rfl,q_22,hn_21⟩:=hX
   cases hp
   simp [Goal,FnEnd,q_22]
  ·simp only [Sum.elim_inl,Sum.elim_inr] at hX hp
   obtain ⟨σ_23,rfl,q_25,hn_24⟩:=hX
   cases hp
   simp [Goal,FnEnd,q_25]
theorem pc19:PC Tryz.prog 19 C19:=pc_of (g:=g19) (zai _ g19_s.2.1 ⟨pc18,trivial⟩) (ent Tryz.func19) fun x y h=>w19 h

def C13:List AV→Option AV:=specP (X:=Int × (List TStructure) × Int × Unit) fun x=>zbk x.1 x.2.1 x.2.2.1
theorem C13_eq {vars set cells} {y} (h:zbk vars set cells=some y):C13 [av .shr vars,av .shr set,av .shr cells]=some (Res.res y):=zah (x:=(vars,set,cells,())) h
def g13:Cfg:={ P:=Tryz.prog,take:=[(13,26),(13,30),(13,33)],keep:=[((13,4),{ hd:=[1,7,8,9],bx:=[],ex:=[7],rt:=[6] })],gho:=[((13,2000002),[.thaw (.sl 8 0) 8 2]),((13,5),[.die (.ix 8 9 2 0) 2])],ctx:=[(19,C19),(42,C42)] }
@[simp] theorem g13_s:type_of% (cfg_s (g:=g13) rfl):=cfg_s rfl
theorem w13 {vars set cells} {y} (hp:zbk vars set cells=some y):∃ m,callo g13 0 13 [av .shr vars,av .shr set,av .shr cells] mem0=some (Res.res y,m):=by
 refine st0 [.tmp 6] Tryz.func13 ?_
 unfold zbk at hp
 obtain ⟨y_1,h_2,hp⟩:=zab hp
 have c_3:=C42_eq h_2
 simp at c_3
 simp [Tryz.f13,c_3]
 try simp
 obtain ⟨r_44,h_45,hp⟩:=zab hp
 obtain ⟨I_6,I_6_⟩:=exV fun (s_4:(List THeap) × Int × Int) (σ:St)=>(σ.env 1=uL .shr set∧σ.env 7=uL .own s_4.1∧σ.env 8=.one (.bs (1,8) y_1.length 2)∧σ.env 9=uI s_4.2.1∧σ.mem (1,8)=some (deadC y_1 s_4.2.2))∧NoBox [(1,8)] σ.mem
 obtain ⟨X_7,X_7_⟩:=exV fun (r_44:(List THeap) × Int) (out:Out)=>∃ σ:St,out=.exit 0 σ∧(σ.env 7=uL .own r_44.1∧σ.mem (1,8)=some (deadC y_1 r_44.2))∧NoBox [(1,8)] σ.mem
 refine loopP ({ hd:=[1,7,8,9],bx:=[],ex:=[7],rt:=[6] }) I_6 X_7 h_45 (by exact rfl) ?_ ?_ ?_
 ·rw [I_6_]
  exact ⟨by simp [zac,zaa],NoBox.restrict (by intro k hk hb;simp at hk hb;simp [hk,hb])⟩
 ·intro s_4 σ_8 a_5 hI hp
  rw [I_6_] at hI
  obtain ⟨q_10,hn_9⟩:=hI
  try simp [q_10]
  rcases zad hp with ⟨h_11,hp⟩|⟨h_11,hp⟩
  ·try simp at h_11
   obtain ⟨e_12,h_13,hp⟩:=zab hp
   have b_14:=at_lo h_13
   have b_15:=at_hi h_13
   try simp at b_14 b_15
   obtain ⟨_,h_16,hp⟩:=zab hp
   have h_17:=zjp h_16
   have c_18:=zkx h_13 h_17 0 2 rfl rfl (cs:=[(cL .own e_12.vars),(cL .own e_12.next)]) rfl
   try simp at c_18
   obtain ⟨y_20,h_21,hp⟩:=zab hp
   have c_22:=C19_eq h_21
   simp at c_22
   try simp [q_10,h_11,b_14,b_15,c_18,c_22]
   rcases zad hp with ⟨h_23,hp⟩|⟨h_23,hp⟩
   ·try simp at h_23
    obtain ⟨e_24,h_25,hp⟩:=zab hp
    cases Option.some.inj (h_13.symm.trans h_25)
    have b_26:=at_lo h_13
    have b_27:=at_hi h_13
    try simp at b_26 b_27
    obtain ⟨_,h_28,hp⟩:=zab hp
    have h_29:=zjp h_28
    have c_30:=zkx h_13 h_29 0 2 rfl rfl (cs:=[(cL .own e_12.vars),(cL .own e_12.next)]) rfl
    try simp at c_30
    have c_31:=zhg h_13 h_29 0 rfl (cs:=[C.dead,C.dead]) rfl
    try simp at c_31
    obtain ⟨_,h_32,hp⟩:=zab hp
    have b_33:=zap h_32
    try simp at b_33
    try simp [q_10,h_11,h_23,b_26,b_27,c_30,c_31,b_33]
    have b_36:=at_lo h_13
    have b_37:=at_hi h_13
    try simp at b_36 b_37
    have c_34:=splice_dead2 h_13 h_29 0 rfl (cs:=[C.dead,C.dead]) rfl
    try simp at c_34
    have l_35:=dead_room2 h_13 h_29
    try simp at l_35
    cases hp
    try simp [q_10,h_11,h_23,c_34,l_35,b_36,b_37]
    refine zae ?_
    rw [I_6_]
    exact ⟨by simp [zac,zaa,q_10,h_11,h_23,c_34,l_35,b_36,b_37],NoBox.restrict (by intro k hk hb;simp at hk hb;simp [hk,hb,q_10,h_11,h_23,c_34,l_35,b_36,b_37,hn_9 k (by simp [hk,hb])])⟩
   ·try simp at h_23
    try simp [q_10,h_11,h_23]
    obtain ⟨_,h_42,hp⟩:=zab hp
    have h_43:=zjp h_42
    have b_40:=at_lo h_13
    have b_41:=at_hi h_13
    try simp at b_40 b_41
    have c_38:=zhg h_13 h_43 0 rfl (cs:=[C.dead,C.dead]) rfl
    try simp at c_38
    have l_39:=dead_room h_13 h_43
    try simp at l_39
    cases hp
    try simp [q_10,h_11,h_23,c_38,l_39,b_40,b_41]
    refine zae ?_
    rw [I_6_]
    exact ⟨by simp [zac,zaa,q_10,h_11,h_23,c_38,l_39,b_40,b_41],NoBox.restrict (by intro k hk hb;simp at hk hb;simp [hk,hb,q_10,h_11,h_23,c_38,l_39,b_40,b_41,hn_9 k (by simp [hk,hb])])⟩
  ·try simp at h_11
   cases hp
   try simp [q_10,h_11]
   refine zag ?_
   rw [X_7_]
   exact ⟨_,rfl,by simp [zac,zaa,q_10,h_11],NoBox.restrict (by intro k hk hb;simp at hk hb;simp [hk,hb,q_10,h_11,hn_9 k (by simp [hk,hb])])⟩
 ·intro out hX
  rw [X_7_] at hX
  obtain ⟨σ_46,rfl,q_48,hn_47⟩:=hX
  cases hp
  simp [Goal,FnEnd,q_48]
theorem pc13:PC Tryz.prog 13 C13:=pc_of (g:=g13) (zai _ g13_s.2.1 ⟨pc19,pc42,trivial⟩) (ent Tryz.func13) fun x y h=>w13 h

def C10:List AV→Option AV:=specP (X:=Int × TStructure × Unit) fun x=>zee x.1 x.2.1
theorem C10_eq {vars s} {y} (h:zee vars s=some y):C10 [av .shr vars,av .shr s]=some (Res.res y):=zah (x:=(vars,s,())) h
def g10:Cfg:={ P:=Tryz.prog,take:=[(10,22)],keep:=[((10,2),{ hd:=[0,3,4,6],bx:=[7],ex:=[4],rt:=[4,5] })],gho:=[((10,2000004),[.thaw (.sl 7 0) 7 2])],ctx:=[(13,C13)] }
@[simp] theorem g10_s:type_of% (cfg_s (g:=g10) rfl):=cfg_s rfl
theorem w10 {vars s} {y} (hp:zee vars s=some y):∃ m,callo g10 0 10 [av .shr vars,av .shr s] mem0=some (Res.res y,m):=by
 refine st0 [.cell 4 36,.tmp 5] Tryz.func10 ?_
 unfold zee at hp
 simp [Tryz.f10]
 obtain ⟨r_22,h_23,hp⟩:=zab hp
 obtain ⟨I_3,I_3_⟩:=exV fun (s_1:Int) (σ:St)=>(σ.env 0=uI vars∧σ.env 3=uP (1,3)∧σ.env 4=uP (1,4)∧σ.env 6=uI s_1∧σ.mem (1,3)=some [cL .shr s.nodes,cL .shr s.next]∧σ.mem (1,4)=some [.l .own 0 [],.l .own 0 []])∧NoBox [(1,3),(1,4)] σ.mem
 obtain ⟨X_4,X_4_⟩:=exV fun (r_22:(Bool × (List Int) × (List Int)) ⊕ (Unit)) (out:Out)=>Sum.elim (fun r_22=>∃ σ:St,out=.ret σ∧(σ.env 4=uP (1,4)∧σ.env 5=uB r_22.1∧σ.mem (1,3)=some [cL .shr s.nodes,cL .shr s.next]∧σ.mem (1,4)=some [cL .own r_22.2.1,cL .own r_22.2.2])∧NoBox [(1,3),(1,4)] σ.mem) (fun r_22=>∃ σ:St,out=.exit 0 σ∧(σ.env 4=uP (1,4)∧σ.mem (1,3)=some [cL .shr s.nodes,cL .shr s.next]∧σ.mem (1,4)=some [.l .own 0 [],.l .own 0 []])∧NoBox [(1,3),(1,4)] σ.mem) r_22
 refine loopP ({ hd:=[0,3,4,6],bx:=[7],ex:=[4],rt:=[4,5] }) I_3 X_4 h_23 (by exact rfl) ?_ ?_ ?_
 ·rw [I_3_]
  exact ⟨by simp [zac,zaa],NoBox.restrict (by intro k hk hb;simp at hk hb;simp [hk,hb])⟩
 ·intro s_1 σ_5 a_2 hI hp
  rw [I_3_] at hI
  obtain ⟨q_7,hn_6⟩:=hI
  try simp [q_7]
  rcases zad hp with ⟨h_8,hp⟩|⟨h_8,hp⟩
  ·try simp at h_8
   obtain ⟨y_9,h_10,hp⟩:=zab hp
   have c_11:=C13_eq h_10
   simp at c_11
   try simp [q_7,h_8,c_11]
   have n_12:=hn_6 (1,7) (by simp)
   try simp [q_7,h_8,n_12]
   rcases zad hp with ⟨h_13,hp⟩|⟨h_13,hp⟩
   ·try simp at h_13
    obtain ⟨e_14,h_15,hp⟩:=zab hp
    have b_16:=at_lo h_15
    have b_17:=at_hi h_15
    try simp at b_16 b_17
    obtain ⟨_,h_18,hp⟩:=zab hp
    have h_19:=zjp h_18
    have c_20:=zkx h_15 h_19 0 2 rfl rfl (cs:=[(cL .own e_14.vars),(cL .own e_14.next)]) rfl
    try simp at c_20
    have c_21:=zhg h_15 h_19 0 rfl (cs:=[C.dead,C.dead]) rfl
    try simp at c_21
    cases hp
    try simp [q_7,h_8,h_13,b_16,b_17,c_20,c_21]
    refine zal ?_
    rw [X_4_]
    exact ⟨_,rfl,by simp [zac,zaa,q_7,h_8,h_13,b_16,b_17,c_20,c_21],NoBox.restrict (by intro k hk hb;simp at hk hb;simp [hk,hb,q_7,h_8,h_13,b_16,b_17,c_20,c_21,hn_6 k (by simp [hk,hb])])⟩
   ·try simp at h_13
    cases hp
    try simp [q_7,h_8,h_13]
    refine zae ?_
    rw [I_3_]
    exact ⟨by simp [zac,zaa,q_7,h_8,h_13],NoBox.restrict (by intro k hk hb;simp at hk hb;simp [hk,hb,q_7,h_8,h_13,hn_6 k (by simp [hk,hb])])⟩
  ·try simp at h_8
   cases hp
   try simp [q_7,h_8]
   refine zag ?_
   rw [X_4_]
   exact ⟨_,rfl,by simp [zac,zaa,q_7,h_8],NoBox.restrict (by intro k hk hb;simp at hk hb;simp [hk,hb,q_7,h_8,hn_6 k (by simp [hk,hb])])⟩
 ·intro out hX
  rw [X_4_] at hX
  rcases r_22 with r_22 | r_22
  ·simp only [Sum.elim_inl,Sum.elim_inr] at hX hp
   obtain ⟨σ_24,rfl,q_26,hn_25⟩:=hX
   cases hp
   simp [Goal,FnEnd,retR,rsrc,RSrc.val,nodupR,nodup,tupPart,q_26]
  ·simp only [Sum.elim_inl,Sum.elim_inr] at hX hp
   obtain ⟨σ_27,rfl,q_29,hn_28⟩:=hX
   cases hp
   simp [Goal,FnEnd,retR,rsrc,RSrc.val,nodupR,nodup,tupPart,q_29]
theorem pc10:PC Tryz.prog 10 C10:=pc_of (g:=g10) (zai _ g10_s.2.1 ⟨pc13,trivial⟩) (ent Tryz.func10) fun x y h=>w10 h

def C11:List AV→Option AV:=specPS (X:=(List U8) × Unit) fun x=>zcg x.1
theorem C11_eq {code} {y} (h:zcg code=some y):C11 [av .shr code]=some ((Res.res y).toS):=znh (x:=(code,())) h
def g11:Cfg:={ P:=Tryz.prog,take:=[],keep:=[],gho:=[],ctx:=[],away:=[(11,11,4000000)],give:=[(11,7)],bctx:=[(35,C35)],pctx:=[(36,C36),(41,C41)] }
@[simp] theorem g11_s:type_of% (cfg_s (g:=g11) rfl):=cfg_s rfl
theorem g11_x36:PxOK g11 36 C36:=⟨rfl,rfl,Tryz.f36,Tryz.f36.body.getD .skip,Tryz.func36,by kernel_rfl⟩
theorem g11_x41:PxOK g11 41 C41:=⟨rfl,rfl,Tryz.f41,Tryz.f41.body.getD .skip,Tryz.func41,by kernel_rfl⟩
@[simp] theorem g11_wa (d f dst key):awayB g11 d f dst key=awayL [(11,11,4000000)] d f dst key:=rfl
@[simp] theorem g11_wl (d f a key):lateB g11 d f a key=lateL [(11,11,4000000)] d f a key:=rfl
theorem w11 {code} {y} (hp:zcg code=some y):∃ m,callo g11 0 11 [av .shr code] mem0=some ((Res.res y).toS,m):=by
 refine st0 [.tmp 2,.cell 3 32,.tmp 4] Tryz.func11 ?_
 unfold zcg at hp
 obtain ⟨y_1,h_2,hp⟩:=zab hp
 simp [Tryz.f11]
 refine zqz (1,5000007) (C35_eq h_2) (by rfl) (by rfl) (by simp) (by simp) (by rfl) (by simp [mem0]) ?_
 obtain ⟨y_3,h_4,hp⟩:=zab hp
 try simp
 refine zbt (1,5000007) (C36_eq h_4) g11_x36 (by simp) (by simp) (by simp) (.inr (by decide)) ?_
 obtain ⟨e_5,h_6,hp⟩:=zab hp
 have b_8:=at_hi h_6
 try simp at b_8
 have c_9:=seg_at' h_6 0 2 (by decide) (ds:=[.sl e_5.nodes.length (encL e_5.nodes),.sl e_5.next.length (encL e_5.next)]) rfl
 try simp at c_9
 obtain ⟨y_10,h_11,hp⟩:=zab hp
 try simp [b_8,c_9]
 refine zbt (1,5000007) (zpa h_11) g11_x41 (by simp) (by simp) (by simp) (.inr (by decide)) ?_
 cases hp
 simp [Goal,FnEnd,retR,rsrc,RSrc.val,nodupR,nodup,tupPart]
theorem pc11:PC Tryz.prog 11 C11:=pc_ofS (g:=g11) (zhr [] rfl trivial [] rfl trivial [(35,C35)] rfl ⟨bc35,trivial⟩ [(36,C36),(41,C41)] rfl ⟨px36,px41,trivial⟩) (ent Tryz.func11) fun x y h=>w11 h

def C43:List AV→Option AV:=specP (X:=(List Int) × (List Int) × Unit) fun x=>zfg x.1 x.2.1
theorem C43_eq {a_ b_} {y} (h:zfg a_ b_=some y):C43 [av .shr a_,av .shr b_]=some (Res.res y):=zah (x:=(a_,b_,())) h
def g43:Cfg:={ P:=Tryz.prog,take:=[],keep:=[((43,4),{ hd:=[0,1,5],bx:=[],ex:=[],rt:=[4] })],gho:=[],ctx:=[] }
@[simp] theorem g43_s:type_of% (cfg_s (g:=g43) rfl):=cfg_s rfl
theorem w43 {a_ b_} {y} (hp:zfg a_ b_=some y):∃ m,callo g43 0 43 [av .shr a_,av .shr b_] mem0=some (Res.res y,m):=by
 refine st0 [.tmp 4] Tryz.func43 ?_
 unfold zfg at hp
 simp [Tryz.f43]
 rcases zad hp with ⟨h_1,hp⟩|⟨h_1,hp⟩
 ·try simp at h_1
  cases hp
  simp [Goal,FnEnd,h_1]
 ·try simp at h_1
  try simp [h_1]
  obtain ⟨r_21,h_22,hp⟩:=zab hp
  obtain ⟨I_4,I_4_⟩:=exV fun (s_2:Int) (σ:St)=>(σ.env 0=uL .shr a_∧σ.env 1=uL .shr b_∧σ.env 5=uI s_2)∧σ.mem=mem0
  obtain ⟨X_5,X_5_⟩:=exV fun (r_21:(Unit) ⊕ (Unit)) (out:Out)=>Sum.elim (fun r_21=>∃ σ:St,out=.ret σ∧σ.env 4=uB false∧σ.mem=mem0) (fun r_21=>∃ σ:St,out=.exit 0 σ∧σ.mem=mem0) r_21
  refine loopP ({ hd:=[0,1,5],bx:=[],ex:=[],rt:=[4] }) I_4 X_5 h_22 (by exact rfl) ?_ ?_ ?_
  ·rw [I_4_]
   exact ⟨by simp [zac,zaa,h_1],by simp [zaa,h_1]⟩
  ·intro s_2 σ_6 a_3 hI hp
   rw [I_4_] at hI
   obtain ⟨q_8,q_7⟩:=hI
   try simp [h_1,q_8,q_7]
   rcases zad hp with ⟨h_9,hp⟩|⟨h_9,hp⟩
   ·try simp at h_9
    obtain ⟨e_10,h_11,hp⟩:=zab hp
    have b_12:=at_lo h_11
    have b_13:=at_hi h_11
    try simp at b_12 b_13
    have c_14:=seg_at' h_11 0 1 (by decide) (ds:=[.sc (.int .i64 e_10)]) rfl
    try simp at c_14
    obtain ⟨e_15,h_16,hp⟩:=zab hp
    have b_17:=at_lo h_16
    have b_18:=at_hi h_16
    try simp at b_17 b_18
    have c_19:=seg_at' h_16 0 1 (by decide) (ds:=[.sc (.int .i64 e_15)]) rfl
    try simp at c_19
    try simp [h_1,q_8,q_7,h_9,b_12,b_13,c_14,b_17,b_18,c_19]
    rcases zad hp with ⟨h_20,hp⟩|⟨h_20,hp⟩
    ·try simp at h_20
     cases hp
     try simp [h_1,q_8,q_7,h_9,h_20]
     refine zal ?_
     rw [X_5_]
     exact ⟨_,rfl,by simp [zac,zaa,h_1,q_8,q_7,h_9,h_20],by simp [zaa,h_1,q_8,q_7,h_9,h_20]⟩
    ·try simp at h_20
     cases hp
     try simp [h_1,q_8,q_7,h_9,h_20]
     refine zae ?_
     rw [I_4_]
     exact ⟨by simp [zac,zaa,h_1,q_8,q_7,h_9,h_20],by simp [zaa,h_1,q_8,q_7,h_9,h_20]⟩
   ·try simp at h_9
    cases hp
    try simp [h_1,q_8,q_7,h_9]
    refine zag ?_
    rw [X_5_]
    exact ⟨_,rfl,by simp [zaa,h_1,q_8,q_7,h_9]⟩
  ·intro out hX
   rw [X_5_] at hX
   rcases r_21 with r_21 | r_21
   ·simp only [Sum.elim_inl,Sum.elim_inr] at hX hp
    obtain ⟨σ_23,rfl,q_25,q_24⟩:=hX
    cases hp
    simp [Goal,FnEnd,h_1,q_25,q_24]
   ·simp only [Sum.elim_inl,Sum.elim_inr] at hX hp
    obtain ⟨σ_26,rfl,q_27⟩:=hX
    cases hp
    simp [Goal,FnEnd,h_1,q_27]
theorem pc43:PC Tryz.prog 43 C43:=pc_of (g:=g43) (zai [] rfl trivial) (ent Tryz.func43) fun x y h=>w43 h

def C14:List AV→Option AV:=specP (X:=THeap × THeap × Unit) fun x=>zdn x.1 x.2.1
theorem C14_eq {a_ b_} {y} (h:zdn a_ b_=some y):C14 [av .shr a_,av .shr b_]=some (Res.res y):=zah (x:=(a_,b_,())) h
def g14:Cfg:={ P:=Tryz.prog,take:=[],keep:=[],gho:=[],ctx:=[(43,C43)] }
@[simp] theorem g14_s:type_of% (cfg_s (g:=g14) rfl):=cfg_s rfl
theorem w14 {a_ b_} {y} (hp:zdn a_ b_=some y):∃ m,callo g14 0 14 [av .shr a_,av .shr b_] mem0=some (Res.res y,m):=by
 refine st0 [.tmp 4] Tryz.func14 ?_
 unfold zdn at hp
 obtain ⟨y_1,h_2,hp⟩:=zab hp
 have c_3:=C43_eq h_2
 simp at c_3
 simp [Tryz.f14,c_3]
 rcases zad hp with ⟨h_4,hp⟩|⟨h_4,hp⟩
 ·try simp at h_4
  obtain ⟨y_5,h_6,hp⟩:=zab hp
  have c_7:=C43_eq h_6
  simp at c_7
  cases hp
  simp [Goal,FnEnd,h_4,c_7]
 ·try simp at h_4
  cases hp
  simp [Goal,FnEnd,h_4]
theorem pc14:PC Tryz.prog 14 C14:=pc_of (g:=g14) (zai _ g14_s.2.1 ⟨pc43,trivial⟩) (ent Tryz.func14) fun x y h=>w14 h

def C12:List AV→Option AV:=specP (X:=(List THeap) × (List THeap) × Unit) fun x=>laws_sameHeaps x.1 x.2.1
theorem C12_eq {a_ b_} {y} (h:laws_sameHeaps a_ b_=some y):C12 [av .shr a_,av .shr b_]=some (Res.res y):=zah (x:=(a_,b_,())) h
def g12:Cfg:={ P:=Tryz.prog,take:=[],keep:=[((12,4),{ hd:=[0,1,5],bx:=[],ex:=[],rt:=[4] })],gho:=[],ctx:=[(14,C14)] }
@[simp] theorem g12_s:type_of% (cfg_s (g:=g12) rfl):=cfg_s rfl
theorem w12 {a_ b_} {y} (hp:laws_sameHeaps a_ b_=some y):∃ m,callo g12 0 12 [av .shr a_,av .shr b_] mem0=some (Res.res y,m):=by
 refine st0 [.tmp 4] Tryz.func12 ?_
 unfold laws_sameHeaps at hp
 simp [Tryz.f12]
 rcases zad hp with ⟨h_1,hp⟩|⟨h_1,hp⟩
 ·try simp at h_1
  cases hp
  simp [Goal,FnEnd,h_1]
 ·try simp at h_1
  try simp [h_1]
  obtain ⟨r_24,h_25,hp⟩:=zab hp
  obtain ⟨I_4,I_4_⟩:=exV fun (s_2:Int) (σ:St)=>(σ.env 0=uL .shr a_∧σ.env 1=uL .shr b_∧σ.env 5=uI s_2)∧σ.mem=mem0
  obtain ⟨X_5,X_5_⟩:=exV fun (r_24:(Unit) ⊕ (Unit)) (out:Out)=>Sum.elim (fun r_24=>∃ σ:St,out=.ret σ∧σ.env 4=uB false∧σ.mem=mem0) (fun r_24=>∃ σ:St,out=.exit 0 σ∧σ.mem=mem0) r_24
  refine loopP ({ hd:=[0,1,5],bx:=[],ex:=[],rt:=[4] }) I_4 X_5 h_25 (by exact rfl) ?_ ?_ ?_
  ·rw [I_4_]
   exact ⟨by simp [zac,zaa,h_1],by simp [zaa,h_1]⟩
  ·intro s_2 σ_6 a_3 hI hp
   rw [I_4_] at hI
   obtain ⟨q_8,q_7⟩:=hI
   try simp [h_1,q_8,q_7]
   rcases zad hp with ⟨h_9,hp⟩|⟨h_9,hp⟩
   ·try simp at h_9
    obtain ⟨e_10,h_11,hp⟩:=zab hp
    have b_12:=at_lo h_11
    have b_13:=at_hi h_11
    try simp at b_12 b_13
    have c_14:=seg_at' h_11 0 2 (by decide) (ds:=[.sl e_10.vars.length (encL e_10.vars),.sl e_10.next.length (encL e_10.next)]) rfl
    try simp at c_14
    obtain ⟨e_15,h_16,hp⟩:=zab hp
    have b_17:=at_lo h_16
    have b_18:=at_hi h_16
    try simp at b_17 b_18
    have c_19:=seg_at' h_16 0 2 (by decide) (ds:=[.sl e_15.vars.length (encL e_15.vars),.sl e_15.next.length (encL e_15.next)]) rfl
    try simp at c_19
    obtain ⟨y_20,h_21,hp⟩:=zab hp
    have c_22:=C14_eq h_21
    simp at c_22
    try simp [h_1,q_8,q_7,h_9,b_12,b_13,c_14,b_17,b_18,c_19,c_22]
    rcases zad hp with ⟨h_23,hp⟩|⟨h_23,hp⟩
    ·try simp at h_23
     cases hp
     try simp [h_1,q_8,q_7,h_9,h_23]
     refine zae ?_
     rw [I_4_]
     exact ⟨by simp [zac,zaa,h_1,q_8,q_7,h_9,h_23],by simp [zaa,h_1,q_8,q_7,h_9,h_23]⟩
    ·try simp at h_23
     cases hp
     try simp [h_1,q_8,q_7,h_9,h_23]
     refine zal ?_
     rw [X_5_]
     exact ⟨_,rfl,by simp [zac,zaa,h_1,q_8,q_7,h_9,h_23],by simp [zaa,h_1,q_8,q_7,h_9,h_23]⟩
   ·try simp at h_9
    cases hp
    try simp [h_1,q_8,q_7,h_9]
    refine zag ?_
    rw [X_5_]
    exact ⟨_,rfl,by simp [zaa,h_1,q_8,q_7,h_9]⟩
  ·intro out hX
   rw [X_5_] at hX
   rcases r_24 with r_24 | r_24
   ·simp only [Sum.elim_inl,Sum.elim_inr] at hX hp
    obtain ⟨σ_26,rfl,q_28,q_27⟩:=hX
    cases hp
    simp [Goal,FnEnd,h_1,q_28,q_27]
   ·simp only [Sum.elim_inl,Sum.elim_inr] at hX hp
    obtain ⟨σ_29,rfl,q_30⟩:=hX
    cases hp
    simp [Goal,FnEnd,h_1,q_30]
theorem pc12:PC Tryz.prog 12 C12:=pc_of (g:=g12) (zai _ g12_s.2.1 ⟨pc14,trivial⟩) (ent Tryz.func12) fun x y h=>w12 h
end Go.Proofs


set_option maxHeartbeats 4000000
set_option maxRecDepth 100000
namespace Go.Proofs
open Go.Ev
def C17:List AV→Option AV:=specP (X:=Int × (List TStructure) × Int × Unit) fun x=>zbj x.1 x.2.1 x.2.2.1
theorem C17_eq {vars set cells} {y} (h:zbj vars set cells=some y):C17 [av .shr vars,av .shr set,av .shr cells]=some (Res.res y):=zah (x:=(vars,set,cells,())) h
def g17:Cfg:={ P:=Tryz.prog,take:=[],keep:=[],gho:=[],ctx:=[(7,C7)] }
@[simp] theorem g17_s:type_of% (cfg_s (g:=g17) rfl):=cfg_s rfl
theorem w17 {vars set cells} {y} (hp:zbj vars set cells=some y):∃ m,callo g17 0 17 [av .shr vars,av .shr set,av .shr cells] mem0=some (Res.res y,m):=by
 refine st0 [.tmp 6] Tryz.func17 ?_
 unfold zbj at hp
 obtain ⟨y_1,h_2,hp⟩:=zab hp
 have c_3:=C7_eq h_2
 simp at c_3
 cases hp
 simp [Tryz.f17,Goal,FnEnd,c_3]
theorem pc17:PC Tryz.prog 17 C17:=pc_of (g:=g17) (zai _ g17_s.2.1 ⟨pc7,trivial⟩) (ent Tryz.func17) fun x y h=>w17 h

def C15:List AV→Option AV:=specP (X:=Int × TStructure × Int × Unit) fun x=>zej x.1 x.2.1 x.2.2.1
theorem C15_eq {vars s cells} {y} (h:zej vars s cells=some y):C15 [av .shr vars,av .shr s,av .shr cells]=some (Res.res y):=zah (x:=(vars,s,cells,())) h
def g15:Cfg:={ P:=Tryz.prog,take:=[],keep:=[],gho:=[],ctx:=[(17,C17)] }
@[simp] theorem g15_s:type_of% (cfg_s (g:=g15) rfl):=cfg_s rfl
theorem w15 {vars s cells} {y} (hp:zej vars s cells=some y):∃ m,callo g15 0 15 [av .shr vars,av .shr s,av .shr cells] mem0=some (Res.res y,m):=by
 refine st0 [.tmp 6] Tryz.func15 ?_
 unfold zej at hp
 obtain ⟨y_1,h_2,hp⟩:=zab hp
 have c_3:=C17_eq h_2
 simp at c_3
 cases hp
 simp [Tryz.f15,Goal,FnEnd,c_3]
theorem pc15:PC Tryz.prog 15 C15:=pc_of (g:=g15) (zai _ g15_s.2.1 ⟨pc17,trivial⟩) (ent Tryz.func15) fun x y h=>w15 h

def C44:List AV→Option AV:=specP (X:=Int × (List TStructure) × Int × Unit) fun x=>zbw x.1 x.2.1 x.2.2.1
theorem C44_eq {vars set cells} {y} (h:zbw vars set cells=some y):C44 [av .shr vars,av .shr set,av .shr cells]=some (Res.res y):=zah (x:=(vars,set,cells,())) h
def g44:Cfg:={ P:=Tryz.prog,take:=[],keep:=[],gho:=[],ctx:=[(13,C13)] }
@[simp] theorem g44_s:type_of% (cfg_s (g:=g44) rfl):=cfg_s rfl
theorem w44 {vars set cells} {y} (hp:zbw vars set cells=some y):∃ m,callo g44 0 44 [av .shr vars,av .shr set,av .shr cells] mem0=some (Res.res y,m):=by
 refine st0 [.tmp 6] Tryz.func44 ?_
 unfold zbw at hp
 obtain ⟨y_1,h_2,hp⟩:=zab hp
 have c_3:=C13_eq h_2
 simp at c_3
 cases hp
 simp [Tryz.f44,Goal,FnEnd,c_3]
theorem pc44:PC Tryz.prog 44 C44:=pc_of (g:=g44) (zai _ g44_s.2.1 ⟨pc13,trivial⟩) (ent Tryz.func44) fun x y h=>w44 h

def C16:List AV→Option AV:=specP (X:=Int × TStructure × Int × Unit) fun x=>zcx x.1 x.2.1 x.2.2.1
theorem C16_eq {vars s cells} {y} (h:zcx vars s cells=some y):C16 [av .shr vars,av .shr s,av .shr cells]=some (Res.res y):=zah (x:=(vars,s,cells,())) h
def g16:Cfg:={ P:=Tryz.prog,take:=[],keep:=[],gho:=[],ctx:=[(44,C44)] }
@[simp] theorem g16_s:type_of% (cfg_s (g:=g16) rfl):=cfg_s rfl
theorem w16 {vars s cells} {y} (hp:zcx vars s cells=some y):∃ m,callo g16 0 16 [av .shr vars,av .shr s,av .shr cells] mem0=some (Res.res y,m):=by
 refine st0 [.tmp 6] Tryz.func16 ?_
 unfold zcx at hp
 obtain ⟨y_1,h_2,hp⟩:=zab hp
 have c_3:=C44_eq h_2
 simp at c_3
 cases hp
 simp [Tryz.f16,Goal,FnEnd,c_3]
theorem pc16:PC Tryz.prog 16 C16:=pc_of (g:=g16) (zai _ g16_s.2.1 ⟨pc44,trivial⟩) (ent Tryz.func16) fun x y h=>w16 h

def C3:List AV→Option AV:=specP (X:=(List U8) × Unit) fun x=>laws_FnConcrete x.1
theorem C3_eq {code} {y} (h:laws_FnConcrete code=some y):C3 [av .shr code]=some (Res.res y):=zah (x:=(code,())) h
def g3:Cfg:={ P:=Tryz.prog,take:=[(3,19),(3,29),(3,34),(3,40),(3,46)],keep:=[((3,12),{ hd:=[4,6,16],bx:=[],ex:=[],rt:=[2] })],gho:=[],ctx:=[(5,C5),(6,C6),(7,C7),(8,C8),(9,C9),(10,C10),(11,C11),(12,C12),(13,C13),(14,C14),(15,C15),(16,C16),(17,C17),(18,C18),(19,C19)] }
@[simp] theorem g3_s:type_of% (cfg_s (g:=g3) rfl):=cfg_s rfl
theorem w3 {code} {y} (hp:laws_FnConcrete code=some y):∃ m,callo g3 0 3 [av .shr code] mem0=some (Res.res y,m):=by
 refine st0 [.tmp 2] Tryz.func3 ?_
 unfold laws_FnConcrete at hp
 obtain ⟨y_1,h_2,hp⟩:=zab hp
 have c_3:=C5_eq h_2
 simp at c_3
 simp [Tryz.f3,c_3]
 rcases zad hp with ⟨h_4,hp⟩|⟨h_4,hp⟩
 ·try simp at h_4
  cases hp
  simp [Goal,FnEnd,h_4]
 ·try simp at h_4
  obtain ⟨y_5,h_6,hp⟩:=zab hp
  have c_7:=C6_eq h_6
  simp at c_7
  obtain ⟨y_8,h_9,hp⟩:=zab hp
  have c_10:=C7_eq h_9
  simp at c_10
  obtain ⟨y_11,h_12,hp⟩:=zab hp
  have c_13:=C8_eq h_12
  simp at c_13
  obtain ⟨y_14,h_15,hp⟩:=zab hp
  have c_16:=C9_eq h_15
  simp at c_16
  obtain ⟨y_17,h_18,hp⟩:=zab hp
  have c_19:=C10_eq h_18
  simp at c_19
  obtain ⟨y_20,h_21,hp⟩:=zab hp
  have c_22:=C11_eq h_21
  simp at c_22
  obtain ⟨y_23,h_24,hp⟩:=zab hp
  have c_25:=C13_eq h_24
  simp at c_25
  obtain ⟨y_26,h_27,hp⟩:=zab hp
  have c_28:=C12_eq h_27
  simp at c_28
  try simp [h_4,c_7,c_10,c_13,c_16,c_19,c_22,c_25,c_28]
  rcases zad hp with ⟨h_29,hp⟩|⟨h_29,hp⟩
  ·try simp at h_29
   try simp [h_4,h_29]
   rcases zad hp with ⟨h_30,hp⟩|⟨h_30,hp⟩
   ·try simp at h_30
    cases hp
    simp [Goal,FnEnd,h_4,h_29,h_30]
   ·try simp at h_30
    obtain ⟨y_31,h_32,hp⟩:=zab hp
    have c_33:=C14_eq h_32
    simp at c_33
    try simp [h_4,h_29,h_30,c_33]
    rcases zad hp with ⟨h_34,hp⟩|⟨h_34,hp⟩
    ·try simp at h_34
     obtain ⟨y_35,h_36,hp⟩:=zab hp
     have c_37:=C15_eq h_36
     simp at c_37
     obtain ⟨y_38,h_39,hp⟩:=zab hp
     have c_40:=C16_eq h_39
     simp at c_40
     try simp [h_4,h_29,h_30,h_34,c_37,c_40]
     rcases zad hp with ⟨h_41,hp⟩|⟨h_41,hp⟩
     ·try simp at h_41
      cases hp
      simp [Goal,FnEnd,h_4,h_29,h_30,h_34,h_41]
     ·try simp at h_41
      obtain ⟨y_42,h_43,hp⟩:=zab hp
      have c_44:=C17_eq h_43
      simp at c_44
      try simp [h_4,h_29,h_30,h_34,h_41,c_44]
      rcases zad hp with ⟨h_45,hp⟩|⟨h_45,hp⟩
      ·try simp at h_45
       cases hp
       simp [Goal,FnEnd,h_4,h_29,h_30,h_34,h_41,h_45]
      ·try simp at h_45
       try simp [h_4,h_29,h_30,h_34,h_41,h_45]
       rcases zad hp with ⟨h_46,hp⟩|⟨h_46,hp⟩
       ·try simp at h_46
        obtain ⟨y_47,h_48,hp⟩:=zab hp
        have c_49:=C18_eq h_48
        simp at c_49
        try simp [h_4,h_29,h_30,h_34,h_41,h_45,h_46,c_49]
        rcases zad hp with ⟨h_50,hp⟩|⟨h_50,hp⟩
        ·try simp at h_50
         try simp [h_4,h_29,h_30,h_34,h_41,h_45,h_46,h_50]
         obtain ⟨r_68,h_69,hp⟩:=zab hp
         obtain ⟨I_53,I_53_⟩:=exV fun (s_51:Int) (σ:St)=>(σ.env 4=uL .shr y_5.2.1∧σ.env 6=uL .own y_8∧σ.env 16=uI s_51∧σ.mem (1,8)=some [cL .shr y_11.2.nodes,cL .shr y_11.2.next]∧σ.mem (1,9)=some [cL .own y_14.1.vars,cL .own y_14.1.next]∧σ.mem (1,11)=some [cL .own y_17.1.vars,cL .own y_17.1.next]∧σ.mem (1,14)=some [cL .shr y_20.2.1.nodes,cL .shr y_20.2.1.next])∧NoBox [(1,8),(1,9),(1,11),(1,14)] σ.mem
         obtain ⟨X_54,X_54_⟩:=exV fun (r_68:(Unit) ⊕ (Unit)) (out:Out)=>Sum.elim (fun r_68=>∃ σ:St,out=.ret σ∧(σ.env 2=uB false∧σ.mem (1,8)=some [cL .shr y_11.2.nodes,cL .shr y_11.2.next]∧σ.mem (1,9)=some [cL .own y_14.1.vars,cL .own y_14.1.next]∧σ.mem (1,11)=some [cL .own y_17.1.vars,cL .own y_17.1.next]∧σ.mem (1,14)=some [cL .shr y_20.2.1.nodes,cL .shr y_20.2.1.next])∧NoBox [(1,8),(1,9),(1,11),(1,14)] σ.mem) (fun r_68=>∃ σ:St,out=.exit 0 σ∧(σ.mem (1,8)=some [cL .shr y_11.2.nodes,cL .shr y_11.2.next]∧σ.mem (1,9)=some [cL .own y_14.1.vars,cL .own y_14.1.next]∧σ.mem (1,11)=some [cL .own y_17.1.vars,cL .own y_17.1.next]∧σ.mem (1,14)=some [cL .shr y_20.2.1.nodes,cL .shr y_20.2.1.next])∧NoBox [(1,8),(1,9),(1,11),(1,14)] σ.mem) r_68
         refine loopP ({ hd:=[4,6,16],bx:=[],ex:=[],rt:=[2] }) I_53 X_54 h_69 (by exact rfl) ?_ ?_ ?_
         ·rw [I_53_]
          exact ⟨by simp [zac,zaa,h_4,h_29,h_30,h_34,h_41,h_45,h_46,h_50],NoBox.restrict (by intro k hk hb;simp at hk hb;simp [hk,hb,h_4,h_29,h_30,h_34,h_41,h_45,h_46,h_50])⟩
         ·intro s_51 σ_55 a_52 hI hp
          rw [I_53_] at hI
          obtain ⟨q_57,hn_56⟩:=hI
          try simp [h_4,h_29,h_30,h_34,h_41,h_45,h_46,h_50,q_57]
          rcases zad hp with ⟨h_58,hp⟩|⟨h_58,hp⟩
          ·try simp at h_58
           obtain ⟨e_59,h_60,hp⟩:=zab hp
           have b_61:=at_lo h_60
           have b_62:=at_hi h_60
           try simp at b_61 b_62
           have c_63:=seg_at' h_60 0 2 (by decide) (ds:=[.sl e_59.vars.length (encL e_59.vars),.sl e_59.next.length (encL e_59.next)]) rfl
           try simp at c_63
           obtain ⟨y_64,h_65,hp⟩:=zab hp
           have c_66:=C19_eq h_65
           simp at c_66
           try simp [h_4,h_29,h_30,h_34,h_41,h_45,h_46,h_50,q_57,h_58,b_61,b_62,c_63,c_66]
           rcases zad hp with ⟨h_67,hp⟩|⟨h_67,hp⟩
           ·try simp at h_67
            cases hp
            try simp [h_4,h_29,h_30,h_34,h_41,h_45,h_46,h_50,q_57,h_58,h_67]
            refine zae ?_
            rw [I_53_]
            exact ⟨by simp [zac,zaa,h_4,h_29,h_30,h_34,h_41,h_45,h_46,h_50,q_57,h_58,h_67],NoBox.restrict (by intro k hk hb;simp at hk hb;simp [hk,hb,h_4,h_29,h_30,h_34,h_41,h_45,h_46,h_50,q_57,h_58,h_67,hn_56 k (by simp [hk,hb])])⟩
           ·try simp at h_67
            cases hp
            try simp [h_4,h_29,h_30,h_34,h_41,h_45,h_46,h_50,q_57,h_58,h_67]
            refine zal ?_
            rw [X_54_]
            exact ⟨_,rfl,by simp [zac,zaa,h_4,h_29,h_30,h_34,h_41,h_45,h_46,h_50,q_57,h_58,h_67],NoBox.restrict (by intro k hk hb;simp at hk hb;simp [hk,hb,h_4,h_29,h_30,h_34,h_41,h_45,h_46,h_50,q_57,h_58,h_67,hn_56 k (by simp [hk,hb])])⟩
          ·try simp at h_58
           cases hp
           try simp [h_4,h_29,h_30,h_34,h_41,h_45,h_46,h_50,q_57,h_58]
           refine zag ?_
           rw [X_54_]
           exact ⟨_,rfl,by simp [zac,zaa,h_4,h_29,h_30,h_34,h_41,h_45,h_46,h_50,q_57,h_58],NoBox.restrict (by intro k hk hb;simp at hk hb;simp [hk,hb,h_4,h_29,h_30,h_34,h_41,h_45,h_46,h_50,q_57,h_58,hn_56 k (by simp [hk,hb])])⟩
         ·intro out hX
          rw [X_54_] at hX
          rcases r_68 with r_68 | r_68
          ·simp only [Sum.elim_inl,Sum.elim_inr] at hX hp
           obtain ⟨σ_70,rfl,q_72,hn_71⟩:=hX
           cases hp
           simp [Goal,FnEnd,h_4,h_29,h_30,h_34,h_41,h_45,h_46,h_50,q_72]
          ·simp only [Sum.elim_inl,Sum.elim_inr] at hX hp
           obtain ⟨σ_73,rfl,q_75,hn_74⟩:=hX
           cases hp
           simp [Goal,FnEnd,h_4,h_29,h_30,h_34,h_41,h_45,h_46,h_50,q_75]
        ·try simp at h_50
         cases hp
         simp [Goal,FnEnd,h_4,h_29,h_30,h_34,h_41,h_45,h_46,h_50]
       ·try simp at h_46
        try simp [h_4,h_29,h_30,h_34,h_41,h_45,h_46]
        obtain ⟨r_93,h_94,hp⟩:=zab hp
        obtain ⟨I_78,I_78_⟩:=exV fun (s_76:Int) (σ:St)=>(σ.env 4=uL .shr y_5.2.1∧σ.env 6=uL .own y_8∧σ.env 16=uI s_76∧σ.mem (1,8)=some [cL .shr y_11.2.nodes,cL .shr y_11.2.next]∧σ.mem (1,9)=some [cL .own y_14.1.vars,cL .own y_14.1.next]∧σ.mem (1,11)=some [cL .own y_17.1.vars,cL .own y_17.1.next]∧σ.mem (1,14)=some [cL .shr y_20.2.1.nodes,cL .shr y_20.2.1.next])∧NoBox [(1,8),(1,9),(1,11),(1,14)] σ.mem
        obtain ⟨X_79,X_79_⟩:=exV fun (r_93:(Unit) ⊕ (Unit)) (out:Out)=>Sum.elim (fun r_93=>∃ σ:St,out=.ret σ∧(σ.env 2=uB false∧σ.mem (1,8)=some [cL .shr y_11.2.nodes,cL .shr y_11.2.next]∧σ.mem (1,9)=some [cL .own y_14.1.vars,cL .own y_14.1.next]∧σ.mem (1,11)=some [cL .own y_17.1.vars,cL .own y_17.1.next]∧σ.mem (1,14)=some [cL .shr y_20.2.1.nodes,cL .shr y_20.2.1.next])∧NoBox [(1,8),(1,9),(1,11),(1,14)] σ.mem) (fun r_93=>∃ σ:St,out=.exit 0 σ∧(σ.mem (1,8)=some [cL .shr y_11.2.nodes,cL .shr y_11.2.next]∧σ.mem (1,9)=some [cL .own y_14.1.vars,cL .own y_14.1.next]∧σ.mem (1,11)=some [cL .own y_17.1.vars,cL .own y_17.1.next]∧σ.mem (1,14)=some [cL .shr y_20.2.1.nodes,cL .shr y_20.2.1.next])∧NoBox [(1,8),(1,9),(1,11),(1,14)] σ.mem) r_93
        refine loopP ({ hd:=[4,6,16],bx:=[],ex:=[],rt:=[2] }) I_78 X_79 h_94 (by exact rfl) ?_ ?_ ?_
        ·rw [I_78_]
         exact ⟨by simp [zac,zaa,h_4,h_29,h_30,h_34,h_41,h_45,h_46],NoBox.restrict (by intro k hk hb;simp at hk hb;simp [hk,hb,h_4,h_29,h_30,h_34,h_41,h_45,h_46])⟩
        ·intro s_76 σ_80 a_77 hI hp
         rw [I_78_] at hI
         obtain ⟨q_82,hn_81⟩:=hI
         try simp [h_4,h_29,h_30,h_34,h_41,h_45,h_46,q_82]
         rcases zad hp with ⟨h_83,hp⟩|⟨h_83,hp⟩
         ·try simp at h_83
          obtain ⟨e_84,h_85,hp⟩:=zab hp
          have b_86:=at_lo h_85
          have b_87:=at_hi h_85
          try simp at b_86 b_87
          have c_88:=seg_at' h_85 0 2 (by decide) (ds:=[.sl e_84.vars.length (encL e_84.vars),.sl e_84.next.length (encL e_84.next)]) rfl
          try simp at c_88
          obtain ⟨y_89,h_90,hp⟩:=zab hp
          have c_91:=C19_eq h_90
          simp at c_91
          try simp [h_4,h_29,h_30,h_34,h_41,h_45,h_46,q_82,h_83,b_86,b_87,c_88,c_91]
          rcases zad hp with ⟨h_92,hp⟩|⟨h_92,hp⟩
          ·try simp at h_92
           cases hp
           try simp [h_4,h_29,h_30,h_34,h_41,h_45,h_46,q_82,h_83,h_92]
           refine zae ?_
           rw [I_78_]
           exact ⟨by simp [zac,zaa,h_4,h_29,h_30,h_34,h_41,h_45,h_46,q_82,h_83,h_92],NoBox.restrict (by intro k hk hb;simp at hk hb;simp [hk,hb,h_4,h_29,h_30,h_34,h_41,h_45,h_46,q_82,h_83,h_92,hn_81 k (by simp [hk,hb])])⟩
          ·try simp at h_92
           cases hp
           try simp [h_4,h_29,h_30,h_34,h_41,h_45,h_46,q_82,h_83,h_92]
           refine zal ?_
           rw [X_79_]
           exact ⟨_,rfl,by simp [zac,zaa,h_4,h_29,h_30,h_34,h_41,h_45,h_46,q_82,h_83,h_92],NoBox.restrict (by intro k hk hb;simp at hk hb;simp [hk,hb,h_4,h_29,h_30,h_34,h_41,h_45,h_46,q_82,h_83,h_92,hn_81 k (by simp [hk,hb])])⟩
         ·try simp at h_83
          cases hp
          try simp [h_4,h_29,h_30,h_34,h_41,h_45,h_46,q_82,h_83]
          refine zag ?_
          rw [X_79_]
          exact ⟨_,rfl,by simp [zac,zaa,h_4,h_29,h_30,h_34,h_41,h_45,h_46,q_82,h_83],NoBox.restrict (by intro k hk hb;simp at hk hb;simp [hk,hb,h_4,h_29,h_30,h_34,h_41,h_45,h_46,q_82,h_83,hn_81 k (by simp [hk,hb])])⟩
        ·intro out hX
         rw [X_79_] at hX
         rcases r_93 with r_93 | r_93
         ·simp only [Sum.elim_inl,Sum.elim_inr] at hX hp
          obtain ⟨σ_95,rfl,q_97,hn_96⟩:=hX
          cases hp
          simp [Goal,FnEnd,h_4,h_29,h_30,h_34,h_41,h_45,h_46,q_97]
         ·simp only [Sum.elim_inl,Sum.elim_inr] at hX hp
          obtain ⟨σ_98,rfl,q_100,hn_99⟩:=hX
          cases hp
          simp [Goal,FnEnd,h_4,h_29,h_30,h_34,h_41,h_45,h_46,q_100]
    ·try simp at h_34
     cases hp
     simp [Goal,FnEnd,h_4,h_29,h_30,h_34]
  ·try simp at h_29
   cases hp
   simp [Goal,FnEnd,h_4,h_29]
theorem pc3:PC Tryz.prog 3 C3:=pc_of (g:=g3) (zai _ g3_s.2.1 ⟨pc5,pc6,pc7,pc8,pc9,pc10,pc11,pc12,pc13,pc14,pc15,pc16,pc17,pc18,pc19,trivial⟩) (ent Tryz.func3) fun x y h=>w3 h
end Go.Proofs

