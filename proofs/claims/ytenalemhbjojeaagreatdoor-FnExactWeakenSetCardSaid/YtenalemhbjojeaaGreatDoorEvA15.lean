import Derived.Test.YtenalemhbjojeaaGreatDoorEvA14
set_option linter.unusedSimpArgs false
set_option linter.unusedVariables false
set_option linter.unnecessarySimpa false
noncomputable section
set_option maxHeartbeats 4000000
set_option maxRecDepth 100000
namespace Go.Proofs
open Go.Ev
def g171:Cfg:={ P:=Tryz.prog,take:=[],keep:=[],gho:=[],ctx:=[] }
@[simp] theorem g171_s:type_of% (cfg_s (g:=g171) rfl):=cfg_s rfl
def C104:List AV→Option AV:=specP (X:=Int × Unit) fun x=>zbv x.1
theorem zse {n_} {y} (h:zbv n_=some y):C104 [av .shr n_]=some (Res.res y):=zaf (x:=(n_,())) h
def g104:Cfg:={ P:=Tryz.prog,take:=[],keep:=[],gho:=[],ctx:=[(140,C140)] }
@[simp] theorem g104_s:type_of% (cfg_s (g:=g104) rfl):=cfg_s rfl
theorem w104 {n_} {y} (hp:zbv n_=some y):∃ m,callo g104 0 104 [av .shr n_] mem0=some (Res.res y,m):=by
 refine st0 [.tmp 2] Tryz.func104 ?_
 unfold zbv at hp
 obtain ⟨y_1,h_2,hp⟩:=zaa hp
 have c_3:=C140_eq h_2
 simp at c_3
 cases hp
 simp [Tryz.f104,Goal,FnEnd,c_3]
theorem pc104:PC Tryz.prog 104 C104:=pc_of (g:=g104) (zaj _ g104_s.2.1 ⟨pc140,trivial⟩) (ent Tryz.func104) fun x y h=>w104 h

def C105:List AV→Option AV:=specP (X:=(List ByteArray) × ByteArray × Unit) fun x=>zfn x.1 x.2.1
theorem C105_eq {list by_} {y} (h:zfn list by_=some y):C105 [av .shr list,av .shr by_]=some (Res.res y):=zaf (x:=(list,by_,())) h
def g105:Cfg:={ P:=Tryz.prog,take:=[],keep:=[],gho:=[],ctx:=[(141,C141)] }
@[simp] theorem g105_s:type_of% (cfg_s (g:=g105) rfl):=cfg_s rfl
theorem w105 {list by_} {y} (hp:zfn list by_=some y):∃ m,callo g105 0 105 [av .shr list,av .shr by_] mem0=some (Res.res y,m):=by
 refine st0 [.tmp 4] Tryz.func105 ?_
 unfold zfn at hp
 obtain ⟨y_1,h_2,hp⟩:=zaa hp
 have c_3:=C141_eq h_2
 simp at c_3
 cases hp
 simp [Tryz.f105,Goal,FnEnd,c_3]
theorem pc105:PC Tryz.prog 105 C105:=pc_of (g:=g105) (zaj _ g105_s.2.1 ⟨pc141,trivial⟩) (ent Tryz.func105) fun x y h=>w105 h

def C73:List AV→Option AV:=specP (X:=(List ByteArray) × TStructure × Unit) fun x=>zan x.1 x.2.1
theorem C73_eq {vars s} {y} (h:zan vars s=some y):C73 [av .shr vars,av .shr s]=some (Res.res y):=zaf (x:=(vars,s,())) h
def g73:Cfg:={ P:=Tryz.prog,take:=[(73,64),(73,71),(73,86)],keep:=[((73,7),{ hd:=[3,5,27,28,29],bx:=[7],ex:=[5],rt:=[4] }),((73,14),{ hd:=[3,5,6,8,9,27,28,29,54,55],bx:=[],ex:=[3,5,8,9,27,28,29],rt:=[4] })],gho:=[],ctx:=[(66,C66),(100,C100),(102,C102),(103,C103),(104,C104),(105,C105)] }
@[simp] theorem g73_s:type_of% (cfg_s (g:=g73) rfl):=cfg_s rfl
theorem w73 {vars s} {y} (hp:zan vars s=some y):∃ m,callo g73 0 73 [av .shr vars,av .shr s] mem0=some (Res.res y,m):=by
 refine st0 [.tmp 4] Tryz.func73 ?_
 unfold zan at hp
 obtain ⟨y_1,h_2,hp⟩:=zaa hp
 have c_3:=C102_eq h_2
 simp at c_3
 simp [Tryz.f73,c_3]
 rcases zad hp with ⟨h_4,hp⟩|⟨h_4,hp⟩
 ·try simp at h_4
  obtain ⟨y_5,h_6,hp⟩:=zaa hp
  have c_7:=C66_eq h_6
  simp at c_7
  try simp [h_4,c_7]
  rcases zad hp with ⟨h_8,hp⟩|⟨h_8,hp⟩
  ·try simp at h_8
   try simp [h_4,h_8]
   rcases zad hp with ⟨h_9,hp⟩|⟨h_9,hp⟩
   ·try simp at h_9
    cases hp
    simp [Goal,FnEnd,h_4,h_8,h_9]
   ·try simp at h_9
    try simp [h_4,h_8,h_9]
    obtain ⟨r_133,h_134,hp⟩:=zaa hp
    obtain ⟨I_12,I_12_⟩:=exV fun (s_10:(List ByteArray) × Int) (σ:St)=>(σ.env 3=uP (1,3)∧σ.env 5=uL .own s_10.1∧σ.env 27=uL .shr s.nodes∧σ.env 28=uI (s.nodes.length:Int)∧σ.env 29=uI s_10.2∧σ.mem (1,3)=some [cL .shr s.nodes,cL .shr s.next])∧NoBox [(1,3)] σ.mem
    obtain ⟨X_13,X_13_⟩:=exV fun (r_133:(List ByteArray)) (out:Out)=>∃ σ:St,out=.exit 0 σ∧(σ.env 5=uL .own r_133∧σ.mem (1,3)=some [cL .shr s.nodes,cL .shr s.next])∧NoBox [(1,3)] σ.mem
    refine loopP ({ hd:=[3,5,27,28,29],bx:=[7],ex:=[5],rt:=[4] }) I_12 X_13 h_134 (by exact rfl) ?_ ?_ ?_
    ·rw [I_12_]
     exact ⟨by simp [zac,zab,h_4,h_8,h_9],NoBox.restrict (by intro k hk hb;simp at hk hb;simp [hk,hb,h_4,h_8,h_9])⟩
    ·intro s_10 σ_14 a_11 hI hp
     rw [I_12_] at hI
     obtain ⟨q_16,hn_15⟩:=hI
     try simp [h_4,h_8,h_9,q_16]
     rcases zad hp with ⟨h_17,hp⟩|⟨h_17,hp⟩
     ·try simp at h_17
      obtain ⟨e_18,h_19,hp⟩:=zaa hp
      have b_20:=at_lo h_19
      have b_21:=at_hi h_19
      try simp at b_20 b_21
      have c_22:=seg_at' h_19 0 4 (by decide) (ds:=[.sl e_18.vars.length (encL e_18.vars),.sl e_18.reach.length (encL e_18.reach),.sc (.int .i64 e_18.shared),.sc (.int .i64 e_18.many)]) rfl
      try simp at c_22
      have n_23:=hn_15 (1,7) (by simp)
      obtain ⟨y_24,h_25,hp⟩:=zaa hp
      have c_26:=C103_eq h_25
      simp at c_26
      obtain ⟨y_27,h_28,hp⟩:=zaa hp
      have c_29:=C103_eq h_28
      simp at c_29
      obtain ⟨z_30,h_31,hp⟩:=zaa hp
      have c_32:=zdd (P:=Tryz.prog) (t:=9) h_31
      obtain ⟨y_33,h_34,hp⟩:=zaa hp
      have c_35:=C103_eq h_34
      simp at c_35
      obtain ⟨z_36,h_37,hp⟩:=zaa hp
      have c_38:=zdd (P:=Tryz.prog) (t:=9) h_37
      try simp [h_4,h_8,h_9,q_16,h_17,b_20,b_21,c_22,n_23,c_26,c_29,c_32,c_35,c_38]
      rcases zad hp with ⟨h_39,hp⟩|⟨h_39,hp⟩
      ·try simp at h_39
       obtain ⟨z_40,h_41,hp⟩:=zaa hp
       have c_42:=zdd (P:=Tryz.prog) (t:=9) h_41
       try simp [h_4,h_8,h_9,q_16,h_17,h_39,c_42]
       obtain ⟨r_69,h_70,hp⟩:=zaa hp
       obtain ⟨I_45,I_45_⟩:=exV fun (s_43:(List ByteArray) × Int) (σ:St)=>(σ.env 3=uP (1,3)∧σ.env 5=uL .own s_10.1∧σ.env 6=uI s_10.2∧σ.env 8=.one (.s (.string z_40))∧σ.env 9=uL .own s_43.1∧σ.env 27=uL .shr s.nodes∧σ.env 28=uI (s.nodes.length:Int)∧σ.env 29=uI s_10.2∧σ.env 54=uI (s.nodes.length:Int)∧σ.env 55=uI s_43.2∧σ.mem (1,3)=some [cL .shr s.nodes,cL .shr s.next]∧σ.mem (1,7)=some [cL .shr e_18.vars,cL .shr e_18.reach,cI e_18.shared,cI e_18.many])∧NoBox [(1,3),(1,7)] σ.mem
       obtain ⟨X_46,X_46_⟩:=exV fun (r_69:(List ByteArray)) (out:Out)=>∃ σ:St,out=.exit 2 σ∧(σ.env 3=uP (1,3)∧σ.env 5=uL .own s_10.1∧σ.env 8=.one (.s (.string z_40))∧σ.env 9=uL .own r_69∧σ.env 27=uL .shr s.nodes∧σ.env 28=uI (s.nodes.length:Int)∧σ.env 29=uI s_10.2∧σ.mem (1,3)=some [cL .shr s.nodes,cL .shr s.next]∧σ.mem (1,7)=some [cL .shr e_18.vars,cL .shr e_18.reach,cI e_18.shared,cI e_18.many])∧NoBox [(1,3),(1,7)] σ.mem
       refine loopP ({ hd:=[3,5,6,8,9,27,28,29,54,55],bx:=[],ex:=[3,5,8,9,27,28,29],rt:=[4] }) I_45 X_46 h_70 (by exact rfl) ?_ ?_ ?_
       ·rw [I_45_]
        exact ⟨by simp [zac,zab,h_4,h_8,h_9,q_16,h_17,h_39],NoBox.restrict (by intro k hk hb;simp at hk hb;simp [hk,hb,h_4,h_8,h_9,q_16,h_17,h_39,hn_15 k (by simp [hk,hb])])⟩
       ·intro s_43 σ_47 a_44 hI hp
        rw [I_45_] at hI
        obtain ⟨q_49,hn_48⟩:=hI
        try simp [h_4,h_8,h_9,h_17,h_39,q_49]
        rcases zad hp with ⟨h_50,hp⟩|⟨h_50,hp⟩
        ·try simp at h_50
         obtain ⟨y_51,h_52,hp⟩:=zaa hp
         have c_53:=zsf h_52
         simp at c_53
         try simp [h_4,h_8,h_9,h_17,h_39,q_49,h_50,c_53]
         rcases zad hp with ⟨h_54,hp⟩|⟨h_54,hp⟩
         ·try simp at h_54
          obtain ⟨y_55,h_56,hp⟩:=zaa hp
          have c_57:=zse h_56
          simp at c_57
          obtain ⟨_,h_58,hp⟩:=zaa hp
          have b_59:=zbw h_58
          try simp at b_59
          cases hp
          try simp [h_4,h_8,h_9,h_17,h_39,q_49,h_50,h_54,c_57,b_59]
          refine zag ?_
          rw [I_45_]
          exact ⟨by simp [zac,zab,h_4,h_8,h_9,h_17,h_39,q_49,h_50,h_54,c_57,b_59],NoBox.restrict (by intro k hk hb;simp at hk hb;simp [hk,hb,h_4,h_8,h_9,h_17,h_39,q_49,h_50,h_54,c_57,b_59,hn_48 k (by simp [hk,hb])])⟩
         ·try simp at h_54
          try simp [h_4,h_8,h_9,h_17,h_39,q_49,h_50,h_54]
          rcases zad hp with ⟨h_60,hp⟩|⟨h_60,hp⟩
          ·try simp at h_60
           obtain ⟨y_61,h_62,hp⟩:=zaa hp
           have c_63:=zse h_62
           simp at c_63
           obtain ⟨z_64,h_65,hp⟩:=zaa hp
           have c_66:=zdd (P:=Tryz.prog) (t:=9) h_65
           obtain ⟨_,h_67,hp⟩:=zaa hp
           have b_68:=zbw h_67
           try simp at b_68
           cases hp
           try simp [h_4,h_8,h_9,h_17,h_39,q_49,h_50,h_54,h_60,c_63,c_66,b_68]
           refine zag ?_
           rw [I_45_]
           exact ⟨by simp [zac,zab,h_4,h_8,h_9,h_17,h_39,q_49,h_50,h_54,h_60,c_63,c_66,b_68],NoBox.restrict (by intro k hk hb;simp at hk hb;simp [hk,hb,h_4,h_8,h_9,h_17,h_39,q_49,h_50,h_54,h_60,c_63,c_66,b_68,hn_48 k (by simp [hk,hb])])⟩
          ·try simp at h_60
           cases hp
           try simp [h_4,h_8,h_9,h_17,h_39,q_49,h_50,h_54,h_60]
           refine zag ?_
           rw [I_45_]
           exact ⟨by simp [zac,zab,h_4,h_8,h_9,h_17,h_39,q_49,h_50,h_54,h_60],NoBox.restrict (by intro k hk hb;simp at hk hb;simp [hk,hb,h_4,h_8,h_9,h_17,h_39,q_49,h_50,h_54,h_60,hn_48 k (by simp [hk,hb])])⟩
        ·try simp at h_50
         cases hp
         try simp [h_4,h_8,h_9,h_17,h_39,q_49,h_50]
         refine zak ?_
         rw [X_46_]
         exact ⟨_,rfl,by simp [zac,zab,h_4,h_8,h_9,h_17,h_39,q_49,h_50],NoBox.restrict (by intro k hk hb;simp at hk hb;simp [hk,hb,h_4,h_8,h_9,h_17,h_39,q_49,h_50,hn_48 k (by simp [hk,hb])])⟩
       ·intro out hX
        rw [X_46_] at hX
        obtain ⟨σ_71,rfl,q_73,hn_72⟩:=hX
        try simp [h_4,h_8,h_9,h_17,h_39,q_73]
        rcases zad hp with ⟨h_74,hp⟩|⟨h_74,hp⟩
        ·try simp at h_74
         obtain ⟨y_75,h_76,hp⟩:=zaa hp
         have c_77:=C105_eq h_76
         simp at c_77
         obtain ⟨z_78,h_79,hp⟩:=zaa hp
         have c_80:=zdd (P:=Tryz.prog) (t:=9) h_79
         obtain ⟨z_81,h_82,hp⟩:=zaa hp
         have c_83:=zdd (P:=Tryz.prog) (t:=9) h_82
         obtain ⟨_,h_84,hp⟩:=zaa hp
         have b_85:=zbw h_84
         try simp at b_85
         cases hp
         try simp [h_4,h_8,h_9,h_17,h_39,q_73,h_74,c_77,c_80,c_83,b_85]
         refine zag ?_
         rw [I_12_]
         exact ⟨by simp [zac,zab,h_4,h_8,h_9,h_17,h_39,q_73,h_74,c_77,c_80,c_83,b_85],NoBox.restrict (by intro k hk hb;simp at hk hb;simp [hk,hb,h_4,h_8,h_9,h_17,h_39,q_73,h_74,c_77,c_80,c_83,b_85,hn_72 k (by simp [hk,hb])])⟩
        ·try simp at h_74
         obtain ⟨_,h_86,hp⟩:=zaa hp
         have b_87:=zbw h_86
         try simp at b_87
         cases hp
         try simp [h_4,h_8,h_9,h_17,h_39,q_73,h_74,b_87]
         refine zag ?_
         rw [I_12_]
         exact ⟨by simp [zac,zab,h_4,h_8,h_9,h_17,h_39,q_73,h_74,b_87],NoBox.restrict (by intro k hk hb;simp at hk hb;simp [hk,hb,h_4,h_8,h_9,h_17,h_39,q_73,h_74,b_87,hn_72 k (by simp [hk,hb])])⟩
      ·try simp at h_39
       try simp [h_4,h_8,h_9,q_16,h_17,h_39]
       obtain ⟨r_114,h_115,hp⟩:=zaa hp
       obtain ⟨I_90,I_90_⟩:=exV fun (s_88:(List ByteArray) × Int) (σ:St)=>(σ.env 3=uP (1,3)∧σ.env 5=uL .own s_10.1∧σ.env 6=uI s_10.2∧σ.env 8=.one (.s (.string z_36))∧σ.env 9=uL .own s_88.1∧σ.env 27=uL .shr s.nodes∧σ.env 28=uI (s.nodes.length:Int)∧σ.env 29=uI s_10.2∧σ.env 54=uI (s.nodes.length:Int)∧σ.env 55=uI s_88.2∧σ.mem (1,3)=some [cL .shr s.nodes,cL .shr s.next]∧σ.mem (1,7)=some [cL .shr e_18.vars,cL .shr e_18.reach,cI e_18.shared,cI e_18.many])∧NoBox [(1,3),(1,7)] σ.mem
       obtain ⟨X_91,X_91_⟩:=exV fun (r_114:(List ByteArray)) (out:Out)=>∃ σ:St,out=.exit 2 σ∧(σ.env 3=uP (1,3)∧σ.env 5=uL .own s_10.1∧σ.env 8=.one (.s (.string z_36))∧σ.env 9=uL .own r_114∧σ.env 27=uL .shr s.nodes∧σ.env 28=uI (s.nodes.length:Int)∧σ.env 29=uI s_10.2∧σ.mem (1,3)=some [cL .shr s.nodes,cL .shr s.next]∧σ.mem (1,7)=some [cL .shr e_18.vars,cL .shr e_18.reach,cI e_18.shared,cI e_18.many])∧NoBox [(1,3),(1,7)] σ.mem
       refine loopP ({ hd:=[3,5,6,8,9,27,28,29,54,55],bx:=[],ex:=[3,5,8,9,27,28,29],rt:=[4] }) I_90 X_91 h_115 (by exact rfl) ?_ ?_ ?_
       ·rw [I_90_]
        exact ⟨by simp [zac,zab,h_4,h_8,h_9,q_16,h_17,h_39],NoBox.restrict (by intro k hk hb;simp at hk hb;simp [hk,hb,h_4,h_8,h_9,q_16,h_17,h_39,hn_15 k (by simp [hk,hb])])⟩
       ·intro s_88 σ_92 a_89 hI hp
        rw [I_90_] at hI
        obtain ⟨q_94,hn_93⟩:=hI
        try simp [h_4,h_8,h_9,h_17,h_39,q_94]
        rcases zad hp with ⟨h_95,hp⟩|⟨h_95,hp⟩
        ·try simp at h_95
         obtain ⟨y_96,h_97,hp⟩:=zaa hp
         have c_98:=zsf h_97
         simp at c_98
         try simp [h_4,h_8,h_9,h_17,h_39,q_94,h_95,c_98]
         rcases zad hp with ⟨h_99,hp⟩|⟨h_99,hp⟩
         ·try simp at h_99
          obtain ⟨y_100,h_101,hp⟩:=zaa hp
          have c_102:=zse h_101
          simp at c_102
          obtain ⟨_,h_103,hp⟩:=zaa hp
          have b_104:=zbw h_103
          try simp at b_104
          cases hp
          try simp [h_4,h_8,h_9,h_17,h_39,q_94,h_95,h_99,c_102,b_104]
          refine zag ?_
          rw [I_90_]
          exact ⟨by simp [zac,zab,h_4,h_8,h_9,h_17,h_39,q_94,h_95,h_99,c_102,b_104],NoBox.restrict (by intro k hk hb;simp at hk hb;simp [hk,hb,h_4,h_8,h_9,h_17,h_39,q_94,h_95,h_99,c_102,b_104,hn_93 k (by simp [hk,hb])])⟩
         ·try simp at h_99
          try simp [h_4,h_8,h_9,h_17,h_39,q_94,h_95,h_99]
          rcases zad hp with ⟨h_105,hp⟩|⟨h_105,hp⟩
          ·try simp at h_105
           obtain ⟨y_106,h_107,hp⟩:=zaa hp
           have c_108:=zse h_107
           simp at c_108
           obtain ⟨z_109,h_110,hp⟩:=zaa hp
           have c_111:=zdd (P:=Tryz.prog) (t:=9) h_110
           obtain ⟨_,h_112,hp⟩:=zaa hp
           have b_113:=zbw h_112
           try simp at b_113
           cases hp
           try simp [h_4,h_8,h_9,h_17,h_39,q_94,h_95,h_99,h_105,c_108,c_111,b_113]
           refine zag ?_
           rw [I_90_]
           exact ⟨by simp [zac,zab,h_4,h_8,h_9,h_17,h_39,q_94,h_95,h_99,h_105,c_108,c_111,b_113],NoBox.restrict (by intro k hk hb;simp at hk hb;simp [hk,hb,h_4,h_8,h_9,h_17,h_39,q_94,h_95,h_99,h_105,c_108,c_111,b_113,hn_93 k (by simp [hk,hb])])⟩
          ·try simp at h_105
           cases hp
           try simp [h_4,h_8,h_9,h_17,h_39,q_94,h_95,h_99,h_105]
           refine zag ?_
           rw [I_90_]
           exact ⟨by simp [zac,zab,h_4,h_8,h_9,h_17,h_39,q_94,h_95,h_99,h_105],NoBox.restrict (by intro k hk hb;simp at hk hb;simp [hk,hb,h_4,h_8,h_9,h_17,h_39,q_94,h_95,h_99,h_105,hn_93 k (by simp [hk,hb])])⟩
        ·try simp at h_95
         cases hp
         try simp [h_4,h_8,h_9,h_17,h_39,q_94,h_95]
         refine zak ?_
         rw [X_91_]
         exact ⟨_,rfl,by simp [zac,zab,h_4,h_8,h_9,h_17,h_39,q_94,h_95],NoBox.restrict (by intro k hk hb;simp at hk hb;simp [hk,hb,h_4,h_8,h_9,h_17,h_39,q_94,h_95,hn_93 k (by simp [hk,hb])])⟩
       ·intro out hX
        rw [X_91_] at hX
        obtain ⟨σ_116,rfl,q_118,hn_117⟩:=hX
        try simp [h_4,h_8,h_9,h_17,h_39,q_118]
        rcases zad hp with ⟨h_119,hp⟩|⟨h_119,hp⟩
        ·try simp at h_119
         obtain ⟨y_120,h_121,hp⟩:=zaa hp
         have c_122:=C105_eq h_121
         simp at c_122
         obtain ⟨z_123,h_124,hp⟩:=zaa hp
         have c_125:=zdd (P:=Tryz.prog) (t:=9) h_124
         obtain ⟨z_126,h_127,hp⟩:=zaa hp
         have c_128:=zdd (P:=Tryz.prog) (t:=9) h_127
         obtain ⟨_,h_129,hp⟩:=zaa hp
         have b_130:=zbw h_129
         try simp at b_130
         cases hp
         try simp [h_4,h_8,h_9,h_17,h_39,q_118,h_119,c_122,c_125,c_128,b_130]
         refine zag ?_
         rw [I_12_]
         exact ⟨by simp [zac,zab,h_4,h_8,h_9,h_17,h_39,q_118,h_119,c_122,c_125,c_128,b_130],NoBox.restrict (by intro k hk hb;simp at hk hb;simp [hk,hb,h_4,h_8,h_9,h_17,h_39,q_118,h_119,c_122,c_125,c_128,b_130,hn_117 k (by simp [hk,hb])])⟩
        ·try simp at h_119
         obtain ⟨_,h_131,hp⟩:=zaa hp
         have b_132:=zbw h_131
         try simp at b_132
         cases hp
         try simp [h_4,h_8,h_9,h_17,h_39,q_118,h_119,b_132]
         refine zag ?_
         rw [I_12_]
         exact ⟨by simp [zac,zab,h_4,h_8,h_9,h_17,h_39,q_118,h_119,b_132],NoBox.restrict (by intro k hk hb;simp at hk hb;simp [hk,hb,h_4,h_8,h_9,h_17,h_39,q_118,h_119,b_132,hn_117 k (by simp [hk,hb])])⟩
     ·try simp at h_17
      cases hp
      try simp [h_4,h_8,h_9,q_16,h_17]
      refine zak ?_
      rw [X_13_]
      exact ⟨_,rfl,by simp [zac,zab,h_4,h_8,h_9,q_16,h_17],NoBox.restrict (by intro k hk hb;simp at hk hb;simp [hk,hb,h_4,h_8,h_9,q_16,h_17,hn_15 k (by simp [hk,hb])])⟩
    ·intro out hX
     rw [X_13_] at hX
     obtain ⟨σ_135,rfl,q_137,hn_136⟩:=hX
     obtain ⟨y_138,h_139,hp⟩:=zaa hp
     have c_140:=C105_eq h_139
     simp at c_140
     cases hp
     simp [Goal,FnEnd,h_4,h_8,h_9,q_137,c_140]
  ·try simp at h_8
   cases hp
   simp [Goal,FnEnd,h_4,h_8]
 ·try simp at h_4
  cases hp
  simp [Goal,FnEnd,h_4]
theorem pc73:PC Tryz.prog 73 C73:=pc_of (g:=g73) (zaj _ g73_s.2.1 ⟨pc66,pc100,pc102,pc103,pc104,pc105,trivial⟩) (ent Tryz.func73) fun x y h=>w73 h

def C37:List AV→Option AV:=specP (X:=TStructure × Unit) fun x=>zea x.1
theorem C37_eq {s} {y} (h:zea s=some y):C37 [av .shr s]=some (Res.res y):=zaf (x:=(s,())) h
def g37:Cfg:={ P:=Tryz.prog,take:=[],keep:=[],gho:=[],ctx:=[(67,C67),(73,C73)] }
@[simp] theorem g37_s:type_of% (cfg_s (g:=g37) rfl):=cfg_s rfl
theorem w37 {s} {y} (hp:zea s=some y):∃ m,callo g37 0 37 [av .shr s] mem0=some (Res.res y,m):=by
 refine st0 [.tmp 2] Tryz.func37 ?_
 unfold zea at hp
 simp [Tryz.f37]
 rcases zad hp with ⟨h_1,hp⟩|⟨h_1,hp⟩
 ·try simp at h_1
  cases hp
  simp [Goal,FnEnd,h_1]
 ·try simp at h_1
  obtain ⟨y_2,h_3,hp⟩:=zaa hp
  have c_4:=C67_eq h_3
  simp at c_4
  obtain ⟨z_5,h_6,hp⟩:=zaa hp
  have c_8:=slc_1 h_6
  have c_9:=slc_2 h_6
  have c_10:=slc_3 h_6
  have c_11:=slc_4 h_6
  try simp at c_8 c_9 c_10
  try simp [c_10] at c_11
  obtain ⟨y_12,h_13,hp⟩:=zaa hp
  have c_14:=C73_eq h_13
  simp at c_14
  cases hp
  simp [Goal,FnEnd,h_1,c_4,c_8,c_9,c_10,c_11,c_14]
theorem pc37:PC Tryz.prog 37 C37:=pc_of (g:=g37) (zaj _ g37_s.2.1 ⟨pc67,pc73,trivial⟩) (ent Tryz.func37) fun x y h=>w37 h

abbrev G40 (g:Cfg):Prop:=Has Tryz.prog g 40 Tryz.f40 [] [(2,{ hd:=[0,1,7,8],bx:=[],ex:=[],rt:=[4] })] [] []
theorem wI40 {g:Cfg} (G:G40 g) {d:Nat} {mem:Mem} (hT:Tight d mem)  {s:(List TStructure)} {f_:(TStructure→Option (Bool))} {m_0:Md} (hm_0:LentM m_0) {fk_f_:Nat} {caps_f_:List (Key × Nat)} (hl_f_:∀ c∈caps_f_,c.1.1≤d) (hc_f_:Clo g d mem fk_f_ caps_f_ fun x:TStructure × Unit=>f_ x.1) {y} (hp:zar s f_=some y):callo g d 40 [av m_0 s,.one (.fn fk_f_ caps_f_)] mem=some (Res.res y,mem):=by
 have gP:=G.P;have gt:=G.tk;have gr:=G.ro;have gg:=G.gh
 have k_2:=G.kp (2,{ hd:=[0,1,7,8],bx:=[],ex:=[],rt:=[4] }) (by simp)
 have hT2:memKill (fun k=>decide (d < k.1)) mem=mem:=hT
 refine zgk (Tryz.f40.body.getD .skip) [.tmp 4] G Tryz.func40 (by kernel_rfl) (by simp [Tryz.ntmps40]) rfl ?_
 unfold zar at hp
 simp [Tryz.f40,gP,gt,gr,gg,hm_0.copy,hm_0.elem]
 obtain ⟨r_18,h_19,hp⟩:=zaa hp
 obtain ⟨I_3,I_3_⟩:=exV fun (s_1:Int) (σ:St)=>(σ.env 0=uL m_0 s∧σ.env 7=uI (s.length:Int)∧σ.env 8=uI s_1)∧σ.env 1=.one (.fn fk_f_ caps_f_)∧σ.mem=mem
 obtain ⟨X_4,X_4_⟩:=exV fun (r_18:(Int) ⊕ (Unit)) (out:Out)=>Sum.elim (fun r_18=>∃ σ:St,out=.ret σ∧σ.env 4=uI r_18∧σ.mem=mem) (fun r_18=>∃ σ:St,out=.exit 0 σ∧σ.mem=mem) r_18
 refine loopP ({ hd:=[0,1,7,8],bx:=[],ex:=[],rt:=[4] }) I_3 X_4 h_19 (by exact k_2) ?_ ?_ ?_
 ·rw [I_3_]
  exact ⟨by simp [zac,zab,gP,gt,gr,gg,hm_0.copy,hm_0.elem],by simp [zac,gP,gt,gr,gg,hm_0.copy,hm_0.elem] <;> first | (intro x x1 x2 hx;have h0:=hl_f_ _ hx;simp at h0;omega) | (intro x hx;have h0:=hl_f_ _ hx;simp at h0;omega),by simp [zab,gP,gt,gr,gg,hm_0.copy,hm_0.elem]⟩
 ·intro s_1 σ_5 a_2 hI hp
  rw [I_3_] at hI
  obtain ⟨q_8,q_6,q_7⟩:=hI
  try simp [gP,gt,gr,gg,hm_0.copy,hm_0.elem,q_8,q_6,q_7]
  rcases zad hp with ⟨h_9,hp⟩|⟨h_9,hp⟩
  ·try simp at h_9
   obtain ⟨e_10,h_11,hp⟩:=zaa hp
   have b_12:=at_lo h_11
   have b_13:=at_hi h_11
   try simp at b_12 b_13
   have c_14:=seg_at' h_11 0 2 (by decide) (ds:=[.sl e_10.nodes.length (encL e_10.nodes),.sl e_10.next.length (encL e_10.next)]) rfl
   try simp at c_14
   obtain ⟨y_15,h_16,hp⟩:=zaa hp
   try simp [gP,gt,gr,gg,hm_0.copy,hm_0.elem,q_8,q_6,q_7,h_9,b_12,b_13,c_14]
   refine zfa ([av m_0 e_10] ++ capsAV caps_f_) (Res.res y_15) (by simp [capsAV,gP,gt,gr,gg,hm_0.copy,hm_0.elem,q_8,q_6,q_7,h_9]) (hc_f_ _ _ _ (e_10,()) _ (Nat.le_succ d) (fun k hk=>by first | rfl | rw [q_7]) (by repeat (first | exact zeb _ | exact hT.up | exact hT | (simp only [q_8,q_6,q_7];done) | refine Tight.upd ?_ (by simp) (by simp) | refine Tight.killB ?_ | refine zev ?_)) ⟨_,_,hm_0,rfl,rfl⟩ h_16) ?_
   try simp [gP,gt,gr,gg,hm_0.copy,hm_0.elem,q_8,q_6,q_7,h_9]
   rcases zad hp with ⟨h_17,hp⟩|⟨h_17,hp⟩
   ·try simp at h_17
    cases hp
    try simp [gP,gt,gr,gg,hm_0.copy,hm_0.elem,q_8,q_6,q_7,h_9,h_17]
    refine zao ?_
    rw [X_4_]
    exact ⟨_,rfl,by simp [zac,zab,gP,gt,gr,gg,hm_0.copy,hm_0.elem,q_8,q_6,q_7,h_9,h_17],by simp [zab,gP,gt,gr,gg,hm_0.copy,hm_0.elem,q_8,q_6,q_7,h_9,h_17]⟩
   ·try simp at h_17
    cases hp
    try simp [gP,gt,gr,gg,hm_0.copy,hm_0.elem,q_8,q_6,q_7,h_9,h_17]
    refine zag ?_
    rw [I_3_]
    exact ⟨by simp [zac,zab,gP,gt,gr,gg,hm_0.copy,hm_0.elem,q_8,q_6,q_7,h_9,h_17],by simp [zac,gP,gt,gr,gg,hm_0.copy,hm_0.elem,q_8,q_6,q_7,h_9,h_17] <;> first | (intro x x1 x2 hx;have h0:=hl_f_ _ hx;simp at h0;omega) | (intro x hx;have h0:=hl_f_ _ hx;simp at h0;omega),by simp [zab,gP,gt,gr,gg,hm_0.copy,hm_0.elem,q_8,q_6,q_7,h_9,h_17]⟩
  ·try simp at h_9
   cases hp
   try simp [gP,gt,gr,gg,hm_0.copy,hm_0.elem,q_8,q_6,q_7,h_9]
   refine zak ?_
   rw [X_4_]
   exact ⟨_,rfl,by simp [zab,gP,gt,gr,gg,hm_0.copy,hm_0.elem,q_8,q_6,q_7,h_9]⟩
 ·intro out hX
  rw [X_4_] at hX
  rcases r_18 with r_18 | r_18
  ·simp only [Sum.elim_inl,Sum.elim_inr] at hX hp
   obtain ⟨σ_20,rfl,q_22,q_21⟩:=hX
   cases hp
   simp [Goal,FnEndI,zbj,gP,gt,gr,gg,hm_0.copy,hm_0.elem,q_22,q_21,hT2]
  ·simp only [Sum.elim_inl,Sum.elim_inr] at hX hp
   obtain ⟨σ_23,rfl,q_24⟩:=hX
   cases hp
   simp [Goal,FnEndI,zbj,gP,gt,gr,gg,hm_0.copy,hm_0.elem,q_24,hT2]

abbrev G38 (g:Cfg):Prop:=Has Tryz.prog g 38 Tryz.f38 [] [] [] []
theorem wI38 {g:Cfg} (G:G38 g) (G_40:G40 g) {d:Nat} {mem:Mem} (hT:Tight d mem)  {s:(List TStructure)} {f_:(TStructure→Option (Bool))} {m_0:Md} (hm_0:LentM m_0) {fk_f_:Nat} {caps_f_:List (Key × Nat)} (hl_f_:∀ c∈caps_f_,c.1.1≤d) (hc_f_:Clo g d mem fk_f_ caps_f_ fun x:TStructure × Unit=>f_ x.1) {y} (hp:zas s f_=some y):callo g d 38 [av m_0 s,.one (.fn fk_f_ caps_f_)] mem=some (Res.res y,mem):=by
 have gP:=G.P;have gt:=G.tk;have gr:=G.ro;have gg:=G.gh
 have i_40:=G_40.no
 have hT2:memKill (fun k=>decide (d < k.1)) mem=mem:=hT
 refine zgk (Tryz.f38.body.getD .skip) [.tmp 4] G Tryz.func38 (by kernel_rfl) (by simp [Tryz.ntmps38]) rfl ?_
 unfold zas at hp
 obtain ⟨y_1,h_2,hp⟩:=zaa hp
 simp [Tryz.f38,gP,gt,gr,gg,i_40,hm_0.copy,hm_0.elem]
 refine zfa [av m_0 s,.one (.fn fk_f_ caps_f_)] (Res.res y_1) (by simp [gP,gt,gr,gg,i_40,hm_0.copy,hm_0.elem]) (wI40 G_40 (by repeat (first | exact zeb _ | exact hT.up | exact hT | (simp only [true_and];done) | refine Tight.upd ?_ (by simp) (by simp) | refine Tight.killB ?_ | refine zev ?_)) hm_0 (fun c hc=>Nat.le_succ_of_le (hl_f_ c hc)) (hc_f_.mono (Nat.le_succ d) (fun k hk=>rfl)) h_2) ?_
 cases hp
 simp [Goal,FnEndI,zbj,gP,gt,gr,gg,i_40,hm_0.copy,hm_0.elem,hT2]

abbrev G39 (g:Cfg):Prop:=Has Tryz.prog g 39 Tryz.f39 [] [] [(37,C37)] []
theorem wI39 {g:Cfg} (G:G39 g) {d:Nat} {mem:Mem} (hT:Tight d mem) {K_1:Key} {y_:TStructure} {c0:ByteArray} {m_0:Md} (hm_0:LentM m_0) (hk_1:K_1.1≤d) (hb_1:mem K_1=some [.s (.string c0)]) {y} (hp:zds y_ c0=some y):callo g d 39 [av m_0 y_,.one (.ptr K_1 0)] mem=some (Res.res y,mem):=by
 have gP:=G.P;have gt:=G.tk;have gr:=G.ro;have gg:=G.gh
 have c_37:=G.cs (37,C37) (by simp)
 have hT2:memKill (fun k=>decide (d < k.1)) mem=mem:=hT
 have hm0:∀ t,mem (d+1,t)=none:=fun t=>hT.none (by simp)
 have nk_1:∀ t,(K_1=(d+1,t))=False:=fun t=>by simp;intro h;rw [h] at hk_1;simp at hk_1;omega
 refine zgk (Tryz.f39.body.getD .skip) [.tmp 3] G Tryz.func39 (by kernel_rfl) (by simp [Tryz.ntmps39]) rfl ?_
 unfold zds at hp
 obtain ⟨y_1,h_2,hp⟩:=zaa hp
 have c_3:=C37_eq h_2
 simp at c_3
 cases hp
 simp [Tryz.f39,Goal,FnEndI,zbj,gP,gt,gr,gg,hm0,c_37,hm_0.copy,hm_0.elem,hb_1,nk_1,c_3,hT2]

abbrev G41 (g:Cfg):Prop:=Has Tryz.prog g 41 Tryz.f41 [] [] [(37,C37)] []
theorem wI41 {g:Cfg} (G:G41 g) {d:Nat} {mem:Mem} (hT:Tight d mem) {K_1:Key} {y_:TStructure} {c0:ByteArray} {m_0:Md} (hm_0:LentM m_0) (hk_1:K_1.1≤d) (hb_1:mem K_1=some [.s (.string c0)]) {y} (hp:zdr y_ c0=some y):callo g d 41 [av m_0 y_,.one (.ptr K_1 0)] mem=some (Res.res y,mem):=by
 have gP:=G.P;have gt:=G.tk;have gr:=G.ro;have gg:=G.gh
 have c_37:=G.cs (37,C37) (by simp)
 have hT2:memKill (fun k=>decide (d < k.1)) mem=mem:=hT
 have hm0:∀ t,mem (d+1,t)=none:=fun t=>hT.none (by simp)
 have nk_1:∀ t,(K_1=(d+1,t))=False:=fun t=>by simp;intro h;rw [h] at hk_1;simp at hk_1;omega
 refine zgk (Tryz.f41.body.getD .skip) [.tmp 3] G Tryz.func41 (by kernel_rfl) (by simp [Tryz.ntmps41]) rfl ?_
 unfold zdr at hp
 obtain ⟨y_1,h_2,hp⟩:=zaa hp
 have c_3:=C37_eq h_2
 simp at c_3
 cases hp
 simp [Tryz.f41,Goal,FnEndI,zbj,gP,gt,gr,gg,hm0,c_37,hm_0.copy,hm_0.elem,hb_1,nk_1,c_3,hT2]

def C12:List AV→Option AV:=specP (X:=(List TStructure) × TStructure × Unit) fun x=>zby x.1 x.2.1
theorem C12_eq {set s} {y} (h:zby set s=some y):C12 [av .shr set,av .shr s]=some (Res.res y):=zaf (x:=(set,s,())) h
def g12:Cfg:={ P:=Tryz.prog,take:=[(12,18),(12,26),(12,28)],keep:=[((40,2),{ hd:=[0,1,7,8],bx:=[],ex:=[],rt:=[4] })],gho:=[],ctx:=[(35,C35),(36,C36),(37,C37)],give:=[(12,30)],octx:=[(42,C42)] }
@[simp] theorem g12_s:type_of% (cfg_s (g:=g12) rfl):=cfg_s rfl
theorem w12 {set s} {y} (hp:zby set s=some y):∃ m,callo g12 0 12 [av .shr set,av .shr s] mem0=some (Res.res y,m):=by
 have G_38:G38 g12:=⟨rfl,by kernel_rfl,rfl,fun t=>by simp,noAway (fun t=>by simp) (by simp) (fun t=>by simp),by simp [lookN],fun i=>by simp [lookK],by simp [g12,lookK],by simp⟩
 have G_40:G40 g12:=⟨rfl,by kernel_rfl,rfl,fun t=>by simp,noAway (fun t=>by simp) (by simp) (fun t=>by simp),by simp [lookN],fun i=>by simp [lookK],by simp [g12,lookK],by simp⟩
 have G_39:G39 g12:=⟨rfl,by kernel_rfl,rfl,fun t=>by simp,noAway (fun t=>by simp) (by simp) (fun t=>by simp),by simp [lookN],fun i=>by simp [lookK],by simp [g12,lookK],by simp⟩
 have G_41:G41 g12:=⟨rfl,by kernel_rfl,rfl,fun t=>by simp,noAway (fun t=>by simp) (by simp) (fun t=>by simp),by simp [lookN],fun i=>by simp [lookK],by simp [g12,lookK],by simp⟩
 refine st0 [.tmp 4] Tryz.func12 ?_
 unfold zby at hp
 obtain ⟨y_1,h_2,hp⟩:=zaa hp
 have c_3:=C35_eq h_2
 simp at c_3
 obtain ⟨y_4,h_5,hp⟩:=zaa hp
 have c_6:=C36_eq h_5
 simp at c_6
 obtain ⟨y_7,h_8,hp⟩:=zaa hp
 have c_9:=C37_eq h_8
 simp at c_9
 obtain ⟨y_10,h_11,hp⟩:=zaa hp
 simp [Tryz.f12,c_3,c_6,c_9]
 refine zfa [av .shr set,.one (.fn 39 [((1,7),0)])] (Res.res y_10) (by simp) (wI38 G_38 G_40 (by repeat (first | exact zeb _ | exact hT.up | exact hT | (simp only [true_and];done) | refine Tight.upd ?_ (by simp) (by simp) | refine Tight.killB ?_ | refine zev ?_)) (.inl rfl) (by simp) (clo1 (p:=fun x0=>zds x0 y_7) fun d2 mem2 m0 x0 r2 hd2 ha2 hT2 hm0 hr2=>wI39 G_39 hT2 hm0 (show 1≤d2 from hd2) ((ha2 _ (Nat.le_refl _)).trans (by simp [c_3,c_6,c_9])) hr2) h_11) ?_
 try simp
 rcases zad hp with ⟨h_12,hp⟩|⟨h_12,hp⟩
 ·try simp at h_12
  cases hp
  simp [Goal,FnEnd,h_12]
 ·try simp at h_12
  obtain ⟨y_13,h_14,hp⟩:=zaa hp
  try simp [h_12]
  refine zfa [av .shr set,.one (.fn 41 [((1,7),0)])] (Res.res y_13) (by simp [h_12]) (wI40 G_40 (by repeat (first | exact zeb _ | exact hT.up | exact hT | (simp only [true_and];done) | refine Tight.upd ?_ (by simp) (by simp) | refine Tight.killB ?_ | refine zev ?_)) (.inl rfl) (by simp) (clo1 (p:=fun x0=>zdr x0 y_7) fun d2 mem2 m0 x0 r2 hd2 ha2 hT2 hm0 hr2=>wI41 G_41 hT2 hm0 (show 1≤d2 from hd2) ((ha2 _ (Nat.le_refl _)).trans (by simp [h_12])) hr2) h_14) ?_
  try simp [h_12]
  rcases zad hp with ⟨h_15,hp⟩|⟨h_15,hp⟩
  ·try simp at h_15
   obtain ⟨y_18,h_19,hp⟩:=zaa hp
   have c_20:=C42_eq h_19
   simp at c_20
   cases hp
   simp [Goal,FnEnd,h_12,h_15,c_20]
  ·try simp at h_15
   obtain ⟨y_23,h_24,hp⟩:=zaa hp
   have c_25:=C42_eq h_24
   simp at c_25
   cases hp
   simp [Goal,FnEnd,h_12,h_15,c_25]
theorem pc12:PC Tryz.prog 12 C12:=pc_of (g:=g12) (ctxOK_ofO [(35,C35),(36,C36),(37,C37)] rfl ⟨pc35,pc36,pc37,trivial⟩ [(42,C42)] rfl ⟨po42,trivial⟩) (ent Tryz.func12) fun x y h=>w12 h

def C44:List AV→Option AV:=specP (X:=(List Int) × (List Int) × Unit) fun x=>laws_eqIntS x.1 x.2.1
theorem C44_eq {a_ b_} {y} (h:laws_eqIntS a_ b_=some y):C44 [av .shr a_,av .shr b_]=some (Res.res y):=zaf (x:=(a_,b_,())) h
def g44:Cfg:={ P:=Tryz.prog,take:=[],keep:=[((44,4),{ hd:=[0,1,5],bx:=[],ex:=[],rt:=[4] })],gho:=[],ctx:=[] }
@[simp] theorem g44_s:type_of% (cfg_s (g:=g44) rfl):=cfg_s rfl
theorem w44 {a_ b_} {y} (hp:laws_eqIntS a_ b_=some y):∃ m,callo g44 0 44 [av .shr a_,av .shr b_] mem0=some (Res.res y,m):=by
 refine st0 [.tmp 4] Tryz.func44 ?_
 unfold laws_eqIntS at hp
 simp [Tryz.f44]
 rcases zad hp with ⟨h_1,hp⟩|⟨h_1,hp⟩
 ·try simp at h_1
  cases hp
  simp [Goal,FnEnd,h_1]
 ·try simp at h_1
  try simp [h_1]
  obtain ⟨r_21,h_22,hp⟩:=zaa hp
  obtain ⟨I_4,I_4_⟩:=exV fun (s_2:Int) (σ:St)=>(σ.env 0=uL .shr a_∧σ.env 1=uL .shr b_∧σ.env 5=uI s_2)∧σ.mem=mem0
  obtain ⟨X_5,X_5_⟩:=exV fun (r_21:(Unit) ⊕ (Unit)) (out:Out)=>Sum.elim (fun r_21=>∃ σ:St,out=.ret σ∧σ.env 4=uB false∧σ.mem=mem0) (fun r_21=>∃ σ:St,out=.exit 0 σ∧σ.mem=mem0) r_21
  refine loopP ({ hd:=[0,1,5],bx:=[],ex:=[],rt:=[4] }) I_4 X_5 h_22 (by exact rfl) ?_ ?_ ?_
  ·rw [I_4_]
   exact ⟨by simp [zac,zab,h_1],by simp [zab,h_1]⟩
  ·intro s_2 σ_6 a_3 hI hp
   rw [I_4_] at hI
   obtain ⟨q_8,q_7⟩:=hI
   try simp [h_1,q_8,q_7]
   rcases zad hp with ⟨h_9,hp⟩|⟨h_9,hp⟩
   ·try simp at h_9
    obtain ⟨e_10,h_11,hp⟩:=zaa hp
    have b_12:=at_lo h_11
    have b_13:=at_hi h_11
    try simp at b_12 b_13
    have c_14:=seg_at' h_11 0 1 (by decide) (ds:=[.sc (.int .i64 e_10)]) rfl
    try simp at c_14
    obtain ⟨e_15,h_16,hp⟩:=zaa hp
    have b_17:=at_lo h_16
    have b_18:=at_hi h_16
    try simp at b_17 b_18
    have c_19:=seg_at' h_16 0 1 (by decide) (ds:=[.sc (.int .i64 e_15)]) rfl
    try simp at c_19
    try simp [h_1,q_8,q_7,h_9,b_12,b_13,c_14,b_17,b_18,c_19]
    rcases zad hp with ⟨h_20,hp⟩|⟨h_20,hp⟩
    ·try simp at h_20
     cases hp
     try simp [h_1,q_8,q_7,h_9,h_20]
     refine zao ?_
     rw [X_5_]
     exact ⟨_,rfl,by simp [zac,zab,h_1,q_8,q_7,h_9,h_20],by simp [zab,h_1,q_8,q_7,h_9,h_20]⟩
    ·try simp at h_20
     cases hp
     try simp [h_1,q_8,q_7,h_9,h_20]
     refine zag ?_
     rw [I_4_]
     exact ⟨by simp [zac,zab,h_1,q_8,q_7,h_9,h_20],by simp [zab,h_1,q_8,q_7,h_9,h_20]⟩
   ·try simp at h_9
    cases hp
    try simp [h_1,q_8,q_7,h_9]
    refine zak ?_
    rw [X_5_]
    exact ⟨_,rfl,by simp [zab,h_1,q_8,q_7,h_9]⟩
  ·intro out hX
   rw [X_5_] at hX
   rcases r_21 with r_21 | r_21
   ·simp only [Sum.elim_inl,Sum.elim_inr] at hX hp
    obtain ⟨σ_23,rfl,q_25,q_24⟩:=hX
    cases hp
    simp [Goal,FnEnd,h_1,q_25,q_24]
   ·simp only [Sum.elim_inl,Sum.elim_inr] at hX hp
    obtain ⟨σ_26,rfl,q_27⟩:=hX
    cases hp
    simp [Goal,FnEnd,h_1,q_27]
theorem pc44:PC Tryz.prog 44 C44:=pc_of (g:=g44) (zaj [] rfl trivial) (ent Tryz.func44) fun x y h=>w44 h

def C76:List AV→Option AV:=specP (X:=TNode × TNode × Unit) fun x=>laws_eqNode x.1 x.2.1
theorem C76_eq {a_ b_} {y} (h:laws_eqNode a_ b_=some y):C76 [av .shr a_,av .shr b_]=some (Res.res y):=zaf (x:=(a_,b_,())) h
def g76:Cfg:={ P:=Tryz.prog,take:=[],keep:=[],gho:=[],ctx:=[(44,C44)] }
@[simp] theorem g76_s:type_of% (cfg_s (g:=g76) rfl):=cfg_s rfl
theorem w76 {a_ b_} {y} (hp:laws_eqNode a_ b_=some y):∃ m,callo g76 0 76 [av .shr a_,av .shr b_] mem0=some (Res.res y,m):=by
 refine st0 [.tmp 4] Tryz.func76 ?_
 unfold laws_eqNode at hp
 obtain ⟨y_1,h_2,hp⟩:=zaa hp
 have c_3:=C44_eq h_2
 simp at c_3
 simp [Tryz.f76,c_3]
 rcases zad hp with ⟨h_4,hp⟩|⟨h_4,hp⟩
 ·try simp at h_4
  obtain ⟨y_5,h_6,hp⟩:=zaa hp
  have c_7:=C44_eq h_6
  simp at c_7
  try simp [h_4,c_7]
  rcases zad hp with ⟨h_8,hp⟩|⟨h_8,hp⟩
  ·try simp at h_8
   try simp [h_4,h_8]
   rcases zad hp with ⟨h_9,hp⟩|⟨h_9,hp⟩
   ·try simp at h_9
    cases hp
    simp [Goal,FnEnd,h_4,h_8,h_9]
   ·try simp at h_9
    try simp [h_4,h_8,h_9]
    rcases zad hp with ⟨h_10,hp⟩|⟨h_10,hp⟩
    ·try simp at h_10
     cases hp
     simp [Goal,FnEnd,h_4,h_8,h_9,h_10]
    ·try simp at h_10
     cases hp
     simp [Goal,FnEnd,h_4,h_8,h_9,h_10]
  ·try simp at h_8
   cases hp
   simp [Goal,FnEnd,h_4,h_8]
 ·try simp at h_4
  cases hp
  simp [Goal,FnEnd,h_4]
theorem pc76:PC Tryz.prog 76 C76:=pc_of (g:=g76) (zaj _ g76_s.2.1 ⟨pc44,trivial⟩) (ent Tryz.func76) fun x y h=>w76 h

def C43:List AV→Option AV:=specP (X:=(List TNode) × (List TNode) × Unit) fun x=>laws_eqNodeS x.1 x.2.1
theorem C43_eq {a_ b_} {y} (h:laws_eqNodeS a_ b_=some y):C43 [av .shr a_,av .shr b_]=some (Res.res y):=zaf (x:=(a_,b_,())) h
def g43:Cfg:={ P:=Tryz.prog,take:=[],keep:=[((43,4),{ hd:=[0,1,5],bx:=[],ex:=[],rt:=[4] })],gho:=[],ctx:=[(76,C76)] }
@[simp] theorem g43_s:type_of% (cfg_s (g:=g43) rfl):=cfg_s rfl
theorem w43 {a_ b_} {y} (hp:laws_eqNodeS a_ b_=some y):∃ m,callo g43 0 43 [av .shr a_,av .shr b_] mem0=some (Res.res y,m):=by
 refine st0 [.tmp 4] Tryz.func43 ?_
 unfold laws_eqNodeS at hp
 simp [Tryz.f43]
 rcases zad hp with ⟨h_1,hp⟩|⟨h_1,hp⟩
 ·try simp at h_1
  cases hp
  simp [Goal,FnEnd,h_1]
 ·try simp at h_1
  try simp [h_1]
  obtain ⟨r_24,h_25,hp⟩:=zaa hp
  obtain ⟨I_4,I_4_⟩:=exV fun (s_2:Int) (σ:St)=>(σ.env 0=uL .shr a_∧σ.env 1=uL .shr b_∧σ.env 5=uI s_2)∧σ.mem=mem0
  obtain ⟨X_5,X_5_⟩:=exV fun (r_24:(Unit) ⊕ (Unit)) (out:Out)=>Sum.elim (fun r_24=>∃ σ:St,out=.ret σ∧σ.env 4=uB false∧σ.mem=mem0) (fun r_24=>∃ σ:St,out=.exit 0 σ∧σ.mem=mem0) r_24
  refine loopP ({ hd:=[0,1,5],bx:=[],ex:=[],rt:=[4] }) I_4 X_5 h_25 (by exact rfl) ?_ ?_ ?_
  ·rw [I_4_]
   exact ⟨by simp [zac,zab,h_1],by simp [zab,h_1]⟩
  ·intro s_2 σ_6 a_3 hI hp
   rw [I_4_] at hI
   obtain ⟨q_8,q_7⟩:=hI
   try simp [h_1,q_8,q_7]
   rcases zad hp with ⟨h_9,hp⟩|⟨h_9,hp⟩
   ·try simp at h_9
    obtain ⟨e_10,h_11,hp⟩:=zaa hp
    have b_12:=at_lo h_11
    have b_13:=at_hi h_11
    try simp at b_12 b_13
    have c_14:=seg_at' h_11 0 4 (by decide) (ds:=[.sl e_10.vars.length (encL e_10.vars),.sl e_10.reach.length (encL e_10.reach),.sc (.int .i64 e_10.shared),.sc (.int .i64 e_10.many)]) rfl
    try simp at c_14
    obtain ⟨e_15,h_16,hp⟩:=zaa hp
    have b_17:=at_lo h_16
    have b_18:=at_hi h_16
    try simp at b_17 b_18
    have c_19:=seg_at' h_16 0 4 (by decide) (ds:=[.sl e_15.vars.length (encL e_15.vars),.sl e_15.reach.length (encL e_15.reach),.sc (.int .i64 e_15.shared),.sc (.int .i64 e_15.many)]) rfl
    try simp at c_19
    obtain ⟨y_20,h_21,hp⟩:=zaa hp
    have c_22:=C76_eq h_21
    simp at c_22
    try simp [h_1,q_8,q_7,h_9,b_12,b_13,c_14,b_17,b_18,c_19,c_22]
    rcases zad hp with ⟨h_23,hp⟩|⟨h_23,hp⟩
    ·try simp at h_23
     cases hp
     try simp [h_1,q_8,q_7,h_9,h_23]
     refine zag ?_
     rw [I_4_]
     exact ⟨by simp [zac,zab,h_1,q_8,q_7,h_9,h_23],by simp [zab,h_1,q_8,q_7,h_9,h_23]⟩
    ·try simp at h_23
     cases hp
     try simp [h_1,q_8,q_7,h_9,h_23]
     refine zao ?_
     rw [X_5_]
     exact ⟨_,rfl,by simp [zac,zab,h_1,q_8,q_7,h_9,h_23],by simp [zab,h_1,q_8,q_7,h_9,h_23]⟩
   ·try simp at h_9
    cases hp
    try simp [h_1,q_8,q_7,h_9]
    refine zak ?_
    rw [X_5_]
    exact ⟨_,rfl,by simp [zab,h_1,q_8,q_7,h_9]⟩
  ·intro out hX
   rw [X_5_] at hX
   rcases r_24 with r_24 | r_24
   ·simp only [Sum.elim_inl,Sum.elim_inr] at hX hp
    obtain ⟨σ_26,rfl,q_28,q_27⟩:=hX
    cases hp
    simp [Goal,FnEnd,h_1,q_28,q_27]
   ·simp only [Sum.elim_inl,Sum.elim_inr] at hX hp
    obtain ⟨σ_29,rfl,q_30⟩:=hX
    cases hp
    simp [Goal,FnEnd,h_1,q_30]
theorem pc43:PC Tryz.prog 43 C43:=pc_of (g:=g43) (zaj _ g43_s.2.1 ⟨pc76,trivial⟩) (ent Tryz.func43) fun x y h=>w43 h

def C14:List AV→Option AV:=specP (X:=TStructure × TStructure × Unit) fun x=>laws_eqStructure x.1 x.2.1
theorem C14_eq {a_ b_} {y} (h:laws_eqStructure a_ b_=some y):C14 [av .shr a_,av .shr b_]=some (Res.res y):=zaf (x:=(a_,b_,())) h
def g14:Cfg:={ P:=Tryz.prog,take:=[],keep:=[],gho:=[],ctx:=[(43,C43),(44,C44)] }
@[simp] theorem g14_s:type_of% (cfg_s (g:=g14) rfl):=cfg_s rfl
theorem w14 {a_ b_} {y} (hp:laws_eqStructure a_ b_=some y):∃ m,callo g14 0 14 [av .shr a_,av .shr b_] mem0=some (Res.res y,m):=by
 refine st0 [.tmp 4] Tryz.func14 ?_
 unfold laws_eqStructure at hp
 obtain ⟨y_1,h_2,hp⟩:=zaa hp
 have c_3:=C43_eq h_2
 simp at c_3
 simp [Tryz.f14,c_3]
 rcases zad hp with ⟨h_4,hp⟩|⟨h_4,hp⟩
 ·try simp at h_4
  obtain ⟨y_5,h_6,hp⟩:=zaa hp
  have c_7:=C44_eq h_6
  simp at c_7
  try simp [h_4,c_7]
  rcases zad hp with ⟨h_8,hp⟩|⟨h_8,hp⟩
  ·try simp at h_8
   cases hp
   simp [Goal,FnEnd,h_4,h_8]
  ·try simp at h_8
   cases hp
   simp [Goal,FnEnd,h_4,h_8]
 ·try simp at h_4
  cases hp
  simp [Goal,FnEnd,h_4]
theorem pc14:PC Tryz.prog 14 C14:=pc_of (g:=g14) (zaj _ g14_s.2.1 ⟨pc43,pc44,trivial⟩) (ent Tryz.func14) fun x y h=>w14 h

def C13:List AV→Option AV:=specP (X:=(List TStructure) × (List TStructure) × Unit) fun x=>laws_eqStructureS x.1 x.2.1
theorem zgj {a_ b_} {y} (h:laws_eqStructureS a_ b_=some y):C13 [av .shr a_,av .shr b_]=some (Res.res y):=zaf (x:=(a_,b_,())) h
def g13:Cfg:={ P:=Tryz.prog,take:=[],keep:=[((13,4),{ hd:=[0,1,5],bx:=[],ex:=[],rt:=[4] })],gho:=[],ctx:=[(14,C14)] }
@[simp] theorem g13_s:type_of% (cfg_s (g:=g13) rfl):=cfg_s rfl
theorem w13 {a_ b_} {y} (hp:laws_eqStructureS a_ b_=some y):∃ m,callo g13 0 13 [av .shr a_,av .shr b_] mem0=some (Res.res y,m):=by
 refine st0 [.tmp 4] Tryz.func13 ?_
 unfold laws_eqStructureS at hp
 simp [Tryz.f13]
 rcases zad hp with ⟨h_1,hp⟩|⟨h_1,hp⟩
 ·try simp at h_1
  cases hp
  simp [Goal,FnEnd,h_1]
 ·try simp at h_1
  try simp [h_1]
  obtain ⟨r_24,h_25,hp⟩:=zaa hp
  obtain ⟨I_4,I_4_⟩:=exV fun (s_2:Int) (σ:St)=>(σ.env 0=uL .shr a_∧σ.env 1=uL .shr b_∧σ.env 5=uI s_2)∧σ.mem=mem0
  obtain ⟨X_5,X_5_⟩:=exV fun (r_24:(Unit) ⊕ (Unit)) (out:Out)=>Sum.elim (fun r_24=>∃ σ:St,out=.ret σ∧σ.env 4=uB false∧σ.mem=mem0) (fun r_24=>∃ σ:St,out=.exit 0 σ∧σ.mem=mem0) r_24
  refine loopP ({ hd:=[0,1,5],bx:=[],ex:=[],rt:=[4] }) I_4 X_5 h_25 (by exact rfl) ?_ ?_ ?_
  ·rw [I_4_]
   exact ⟨by simp [zac,zab,h_1],by simp [zab,h_1]⟩
  ·intro s_2 σ_6 a_3 hI hp
   rw [I_4_] at hI
   obtain ⟨q_8,q_7⟩:=hI
   try simp [h_1,q_8,q_7]
   rcases zad hp with ⟨h_9,hp⟩|⟨h_9,hp⟩
   ·try simp at h_9
    obtain ⟨e_10,h_11,hp⟩:=zaa hp
    have b_12:=at_lo h_11
    have b_13:=at_hi h_11
    try simp at b_12 b_13
    have c_14:=seg_at' h_11 0 2 (by decide) (ds:=[.sl e_10.nodes.length (encL e_10.nodes),.sl e_10.next.length (encL e_10.next)]) rfl
    try simp at c_14
    obtain ⟨e_15,h_16,hp⟩:=zaa hp
    have b_17:=at_lo h_16
    have b_18:=at_hi h_16
    try simp at b_17 b_18
    have c_19:=seg_at' h_16 0 2 (by decide) (ds:=[.sl e_15.nodes.length (encL e_15.nodes),.sl e_15.next.length (encL e_15.next)]) rfl
    try simp at c_19
    obtain ⟨y_20,h_21,hp⟩:=zaa hp
    have c_22:=C14_eq h_21
    simp at c_22
    try simp [h_1,q_8,q_7,h_9,b_12,b_13,c_14,b_17,b_18,c_19,c_22]
    rcases zad hp with ⟨h_23,hp⟩|⟨h_23,hp⟩
    ·try simp at h_23
     cases hp
     try simp [h_1,q_8,q_7,h_9,h_23]
     refine zag ?_
     rw [I_4_]
     exact ⟨by simp [zac,zab,h_1,q_8,q_7,h_9,h_23],by simp [zab,h_1,q_8,q_7,h_9,h_23]⟩
    ·try simp at h_23
     cases hp
     try simp [h_1,q_8,q_7,h_9,h_23]
     refine zao ?_
     rw [X_5_]
     exact ⟨_,rfl,by simp [zac,zab,h_1,q_8,q_7,h_9,h_23],by simp [zab,h_1,q_8,q_7,h_9,h_23]⟩
   ·try simp at h_9
    cases hp
    try simp [h_1,q_8,q_7,h_9]
    refine zak ?_
    rw [X_5_]
    exact ⟨_,rfl,by simp [zab,h_1,q_8,q_7,h_9]⟩
  ·intro out hX
   rw [X_5_] at hX
   rcases r_24 with r_24 | r_24
   ·simp only [Sum.elim_inl,Sum.elim_inr] at hX hp
    obtain ⟨σ_26,rfl,q_28,q_27⟩:=hX
    cases hp
    simp [Goal,FnEnd,h_1,q_28,q_27]
   ·simp only [Sum.elim_inl,Sum.elim_inr] at hX hp
    obtain ⟨σ_29,rfl,q_30⟩:=hX
    cases hp
    simp [Goal,FnEnd,h_1,q_30]
theorem pc13:PC Tryz.prog 13 C13:=pc_of (g:=g13) (zaj _ g13_s.2.1 ⟨pc14,trivial⟩) (ent Tryz.func13) fun x y h=>w13 h

def C48:List AV→Option AV:=specP (X:=(List Int) × Int × Unit) fun x=>laws_heldIntS x.1 x.2.1
theorem C48_eq {a_ k_} {y} (h:laws_heldIntS a_ k_=some y):C48 [av .shr a_,av .shr k_]=some (Res.res y):=zaf (x:=(a_,k_,())) h
def g48:Cfg:={ P:=Tryz.prog,take:=[],keep:=[((48,2),{ hd:=[0,1,5],bx:=[],ex:=[1],rt:=[4] })],gho:=[],ctx:=[] }
@[simp] theorem g48_s:type_of% (cfg_s (g:=g48) rfl):=cfg_s rfl
theorem w48 {a_ k_} {y} (hp:laws_heldIntS a_ k_=some y):∃ m,callo g48 0 48 [av .shr a_,av .shr k_] mem0=some (Res.res y,m):=by
 refine st0 [.tmp 4] Tryz.func48 ?_
 unfold laws_heldIntS at hp
 simp [Tryz.f48]
 obtain ⟨r_15,h_16,hp⟩:=zaa hp
 obtain ⟨I_3,I_3_⟩:=exV fun (s_1:Int × Int) (σ:St)=>(σ.env 0=uL .shr a_∧σ.env 1=uI s_1.1∧σ.env 5=uI s_1.2)∧σ.mem=mem0
 obtain ⟨X_4,X_4_⟩:=exV fun (r_15:(Int) ⊕ (Int)) (out:Out)=>Sum.elim (fun r_15=>∃ σ:St,out=.ret σ∧σ.env 4=uI r_15∧σ.mem=mem0) (fun r_15=>∃ σ:St,out=.exit 0 σ∧σ.env 1=uI r_15∧σ.mem=mem0) r_15
 refine loopP ({ hd:=[0,1,5],bx:=[],ex:=[1],rt:=[4] }) I_3 X_4 h_16 (by exact rfl) ?_ ?_ ?_
 ·rw [I_3_]
  exact ⟨by simp [zac,zab],by simp [zab]⟩
 ·intro s_1 σ_5 a_2 hI hp
  rw [I_3_] at hI
  obtain ⟨q_7,q_6⟩:=hI
  try simp [q_7,q_6]
  rcases zad hp with ⟨h_8,hp⟩|⟨h_8,hp⟩
  ·try simp at h_8
   obtain ⟨e_9,h_10,hp⟩:=zaa hp
   have b_11:=at_lo h_10
   have b_12:=at_hi h_10
   try simp at b_11 b_12
   have c_13:=seg_at' h_10 0 1 (by decide) (ds:=[.sc (.int .i64 e_9)]) rfl
   try simp at c_13
   try simp [q_7,q_6,h_8,b_11,b_12,c_13]
   rcases zad hp with ⟨h_14,hp⟩|⟨h_14,hp⟩
   ·try simp at h_14
    cases hp
    try simp [q_7,q_6,h_8,h_14]
    refine zao ?_
    rw [X_4_]
    exact ⟨_,rfl,by simp [zac,zab,q_7,q_6,h_8,h_14],by simp [zab,q_7,q_6,h_8,h_14]⟩
   ·try simp at h_14
    cases hp
    try simp [q_7,q_6,h_8,h_14]
    refine zag ?_
    rw [I_3_]
    exact ⟨by simp [zac,zab,q_7,q_6,h_8,h_14],by simp [zab,q_7,q_6,h_8,h_14]⟩
  ·try simp at h_8
   cases hp
   try simp [q_7,q_6,h_8]
   refine zak ?_
   rw [X_4_]
   exact ⟨_,rfl,by simp [zac,zab,q_7,q_6,h_8],by simp [zab,q_7,q_6,h_8]⟩
 ·intro out hX
  rw [X_4_] at hX
  rcases r_15 with r_15 | r_15
  ·simp only [Sum.elim_inl,Sum.elim_inr] at hX hp
   obtain ⟨σ_17,rfl,q_19,q_18⟩:=hX
   cases hp
   simp [Goal,FnEnd,q_19,q_18]
  ·simp only [Sum.elim_inl,Sum.elim_inr] at hX hp
   obtain ⟨σ_20,rfl,q_22,q_21⟩:=hX
   cases hp
   simp [Goal,FnEnd,q_22,q_21]
theorem pc48:PC Tryz.prog 48 C48:=pc_of (g:=g48) (zaj [] rfl trivial) (ent Tryz.func48) fun x y h=>w48 h

def C47:List AV→Option AV:=specP (X:=(List TNode) × Int × Unit) fun x=>laws_heldNodeS x.1 x.2.1
theorem C47_eq {a_ k_} {y} (h:laws_heldNodeS a_ k_=some y):C47 [av .shr a_,av .shr k_]=some (Res.res y):=zaf (x:=(a_,k_,())) h
def g47:Cfg:={ P:=Tryz.prog,take:=[],keep:=[((47,2),{ hd:=[0,1,5],bx:=[],ex:=[1],rt:=[4] })],gho:=[],ctx:=[(48,C48)] }
@[simp] theorem g47_s:type_of% (cfg_s (g:=g47) rfl):=cfg_s rfl
theorem w47 {a_ k_} {y} (hp:laws_heldNodeS a_ k_=some y):∃ m,callo g47 0 47 [av .shr a_,av .shr k_] mem0=some (Res.res y,m):=by
 refine st0 [.tmp 4] Tryz.func47 ?_
 unfold laws_heldNodeS at hp
 simp [Tryz.f47]
 obtain ⟨r_39,h_40,hp⟩:=zaa hp
 obtain ⟨I_3,I_3_⟩:=exV fun (s_1:Int × Int) (σ:St)=>(σ.env 0=uL .shr a_∧σ.env 1=uI s_1.1∧σ.env 5=uI s_1.2)∧σ.mem=mem0
 obtain ⟨X_4,X_4_⟩:=exV fun (r_39:(Int) ⊕ (Int)) (out:Out)=>Sum.elim (fun r_39=>∃ σ:St,out=.ret σ∧σ.env 4=uI r_39∧σ.mem=mem0) (fun r_39=>∃ σ:St,out=.exit 0 σ∧σ.env 1=uI r_39∧σ.mem=mem0) r_39
 refine loopP ({ hd:=[0,1,5],bx:=[],ex:=[1],rt:=[4] }) I_3 X_4 h_40 (by exact rfl) ?_ ?_ ?_
 ·rw [I_3_]
  exact ⟨by simp [zac,zab],by simp [zab]⟩
 ·intro s_1 σ_5 a_2 hI hp
  rw [I_3_] at hI
  obtain ⟨q_7,q_6⟩:=hI
  try simp [q_7,q_6]
  rcases zad hp with ⟨h_8,hp⟩|⟨h_8,hp⟩
  ·try simp at h_8
   obtain ⟨e_9,h_10,hp⟩:=zaa hp
   have b_11:=at_lo h_10
   have b_12:=at_hi h_10
   try simp at b_11 b_12
   have c_13:=seg_at' h_10 0 1 (by decide) (ds:=[.sl e_9.vars.length (encL e_9.vars)]) rfl
   try simp at c_13
   obtain ⟨y_14,h_15,hp⟩:=zaa hp
   have c_16:=C48_eq h_15
   simp at c_16
   try simp [q_7,q_6,h_8,b_11,b_12,c_13,c_16]
   rcases zad hp with ⟨h_17,hp⟩|⟨h_17,hp⟩
   ·try simp at h_17
    cases hp
    try simp [q_7,q_6,h_8,h_17]
    refine zao ?_
    rw [X_4_]
    exact ⟨_,rfl,by simp [zac,zab,q_7,q_6,h_8,h_17],by simp [zab,q_7,q_6,h_8,h_17]⟩
   ·try simp at h_17
    obtain ⟨e_18,h_19,hp⟩:=zaa hp
    cases Option.some.inj (h_10.symm.trans h_19)
    have b_20:=at_lo h_10
    have b_21:=at_hi h_10
    try simp at b_20 b_21
    have c_22:=seg_at' h_10 1 1 (by decide) (ds:=[.sl e_9.reach.length (encL e_9.reach)]) rfl
    try simp at c_22
    obtain ⟨y_23,h_24,hp⟩:=zaa hp
    have c_25:=C48_eq h_24
    simp at c_25
    try simp [q_7,q_6,h_8,h_17,b_20,b_21,c_22,c_25]
    rcases zad hp with ⟨h_26,hp⟩|⟨h_26,hp⟩
    ·try simp at h_26
     cases hp
     try simp [q_7,q_6,h_8,h_17,h_26]
     refine zao ?_
     rw [X_4_]
     exact ⟨_,rfl,by simp [zac,zab,q_7,q_6,h_8,h_17,h_26],by simp [zab,q_7,q_6,h_8,h_17,h_26]⟩
    ·try simp at h_26
     obtain ⟨e_27,h_28,hp⟩:=zaa hp
     cases Option.some.inj (h_10.symm.trans h_28)
     have b_29:=at_lo h_10
     have b_30:=at_hi h_10
     try simp at b_29 b_30
     have c_31:=seg_at' h_10 2 1 (by decide) (ds:=[.sc (.int .i64 e_9.shared)]) rfl
     try simp at c_31
     try simp [q_7,q_6,h_8,h_17,h_26,b_29,b_30,c_31]
     rcases zad hp with ⟨h_32,hp⟩|⟨h_32,hp⟩
     ·try simp at h_32
      cases hp
      try simp [q_7,q_6,h_8,h_17,h_26,h_32]
      refine zao ?_
      rw [X_4_]
      exact ⟨_,rfl,by simp [zac,zab,q_7,q_6,h_8,h_17,h_26,h_32],by simp [zab,q_7,q_6,h_8,h_17,h_26,h_32]⟩
     ·try simp at h_32
      obtain ⟨e_33,h_34,hp⟩:=zaa hp
      cases Option.some.inj (h_10.symm.trans h_34)
      have b_35:=at_lo h_10
      have b_36:=at_hi h_10
      try simp at b_35 b_36
      have c_37:=seg_at' h_10 3 1 (by decide) (ds:=[.sc (.int .i64 e_9.many)]) rfl
      try simp at c_37
      try simp [q_7,q_6,h_8,h_17,h_26,h_32,b_35,b_36,c_37]
      rcases zad hp with ⟨h_38,hp⟩|⟨h_38,hp⟩
      ·try simp at h_38
       cases hp
       try simp [q_7,q_6,h_8,h_17,h_26,h_32,h_38]
       refine zao ?_
       rw [X_4_]
       exact ⟨_,rfl,by simp [zac,zab,q_7,q_6,h_8,h_17,h_26,h_32,h_38],by simp [zab,q_7,q_6,h_8,h_17,h_26,h_32,h_38]⟩
      ·try simp at h_38
       cases hp
       try simp [q_7,q_6,h_8,h_17,h_26,h_32,h_38]
       refine zag ?_
       rw [I_3_]
       exact ⟨by simp [zac,zab,q_7,q_6,h_8,h_17,h_26,h_32,h_38],by simp [zab,q_7,q_6,h_8,h_17,h_26,h_32,h_38]⟩
  ·try simp at h_8
   cases hp
   try simp [q_7,q_6,h_8]
   refine zak ?_
   rw [X_4_]
   exact ⟨_,rfl,by simp [zac,zab,q_7,q_6,h_8],by simp [zab,q_7,q_6,h_8]⟩
 ·intro out hX
  rw [X_4_] at hX
  rcases r_39 with r_39 | r_39
  ·simp only [Sum.elim_inl,Sum.elim_inr] at hX hp
   obtain ⟨σ_41,rfl,q_43,q_42⟩:=hX
   cases hp
   simp [Goal,FnEnd,q_43,q_42]
  ·simp only [Sum.elim_inl,Sum.elim_inr] at hX hp
   obtain ⟨σ_44,rfl,q_46,q_45⟩:=hX
   cases hp
   simp [Goal,FnEnd,q_46,q_45]
theorem pc47:PC Tryz.prog 47 C47:=pc_of (g:=g47) (zaj _ g47_s.2.1 ⟨pc48,trivial⟩) (ent Tryz.func47) fun x y h=>w47 h

def C17:List AV→Option AV:=specP (X:=(List TStructure) × Int × Unit) fun x=>laws_heldStructureS x.1 x.2.1
theorem C17_eq {a_ k_} {y} (h:laws_heldStructureS a_ k_=some y):C17 [av .shr a_,av .shr k_]=some (Res.res y):=zaf (x:=(a_,k_,())) h
def g17:Cfg:={ P:=Tryz.prog,take:=[],keep:=[((17,2),{ hd:=[0,1,5],bx:=[],ex:=[1],rt:=[4] })],gho:=[],ctx:=[(47,C47),(48,C48)] }
@[simp] theorem g17_s:type_of% (cfg_s (g:=g17) rfl):=cfg_s rfl
theorem w17 {a_ k_} {y} (hp:laws_heldStructureS a_ k_=some y):∃ m,callo g17 0 17 [av .shr a_,av .shr k_] mem0=some (Res.res y,m):=by
 refine st0 [.tmp 4] Tryz.func17 ?_
 unfold laws_heldStructureS at hp
 simp [Tryz.f17]
 obtain ⟨r_27,h_28,hp⟩:=zaa hp
 obtain ⟨I_3,I_3_⟩:=exV fun (s_1:Int × Int) (σ:St)=>(σ.env 0=uL .shr a_∧σ.env 1=uI s_1.1∧σ.env 5=uI s_1.2)∧σ.mem=mem0
 obtain ⟨X_4,X_4_⟩:=exV fun (r_27:(Int) ⊕ (Int)) (out:Out)=>Sum.elim (fun r_27=>∃ σ:St,out=.ret σ∧σ.env 4=uI r_27∧σ.mem=mem0) (fun r_27=>∃ σ:St,out=.exit 0 σ∧σ.env 1=uI r_27∧σ.mem=mem0) r_27
 refine loopP ({ hd:=[0,1,5],bx:=[],ex:=[1],rt:=[4] }) I_3 X_4 h_28 (by exact rfl) ?_ ?_ ?_
 ·rw [I_3_]
  exact ⟨by simp [zac,zab],by simp [zab]⟩
 ·intro s_1 σ_5 a_2 hI hp
  rw [I_3_] at hI
  obtain ⟨q_7,q_6⟩:=hI
  try simp [q_7,q_6]
  rcases zad hp with ⟨h_8,hp⟩|⟨h_8,hp⟩
  ·try simp at h_8
   obtain ⟨e_9,h_10,hp⟩:=zaa hp
   have b_11:=at_lo h_10
   have b_12:=at_hi h_10
   try simp at b_11 b_12
   have c_13:=seg_at' h_10 0 1 (by decide) (ds:=[.sl e_9.nodes.length (encL e_9.nodes)]) rfl
   try simp at c_13
   obtain ⟨y_14,h_15,hp⟩:=zaa hp
   have c_16:=C47_eq h_15
   simp at c_16
   try simp [q_7,q_6,h_8,b_11,b_12,c_13,c_16]
   rcases zad hp with ⟨h_17,hp⟩|⟨h_17,hp⟩
   ·try simp at h_17
    cases hp
    try simp [q_7,q_6,h_8,h_17]
    refine zao ?_
    rw [X_4_]
    exact ⟨_,rfl,by simp [zac,zab,q_7,q_6,h_8,h_17],by simp [zab,q_7,q_6,h_8,h_17]⟩
   ·try simp at h_17
    obtain ⟨e_18,h_19,hp⟩:=zaa hp
    cases Option.some.inj (h_10.symm.trans h_19)
    have b_20:=at_lo h_10
    have b_21:=at_hi h_10
    try simp at b_20 b_21
    have c_22:=seg_at' h_10 1 1 (by decide) (ds:=[.sl e_9.next.length (encL e_9.next)]) rfl
    try simp at c_22
    obtain ⟨y_23,h_24,hp⟩:=zaa hp
    have c_25:=C48_eq h_24
    simp at c_25
    try simp [q_7,q_6,h_8,h_17,b_20,b_21,c_22,c_25]
    rcases zad hp with ⟨h_26,hp⟩|⟨h_26,hp⟩
    ·try simp at h_26
     cases hp
     try simp [q_7,q_6,h_8,h_17,h_26]
     refine zao ?_
     rw [X_4_]
     exact ⟨_,rfl,by simp [zac,zab,q_7,q_6,h_8,h_17,h_26],by simp [zab,q_7,q_6,h_8,h_17,h_26]⟩
    ·try simp at h_26
     cases hp
     try simp [q_7,q_6,h_8,h_17,h_26]
     refine zag ?_
     rw [I_3_]
     exact ⟨by simp [zac,zab,q_7,q_6,h_8,h_17,h_26],by simp [zab,q_7,q_6,h_8,h_17,h_26]⟩
  ·try simp at h_8
   cases hp
   try simp [q_7,q_6,h_8]
   refine zak ?_
   rw [X_4_]
   exact ⟨_,rfl,by simp [zac,zab,q_7,q_6,h_8],by simp [zab,q_7,q_6,h_8]⟩
 ·intro out hX
  rw [X_4_] at hX
  rcases r_27 with r_27 | r_27
  ·simp only [Sum.elim_inl,Sum.elim_inr] at hX hp
   obtain ⟨σ_29,rfl,q_31,q_30⟩:=hX
   cases hp
   simp [Goal,FnEnd,q_31,q_30]
  ·simp only [Sum.elim_inl,Sum.elim_inr] at hX hp
   obtain ⟨σ_32,rfl,q_34,q_33⟩:=hX
   cases hp
   simp [Goal,FnEnd,q_34,q_33]
theorem pc17:PC Tryz.prog 17 C17:=pc_of (g:=g17) (zaj _ g17_s.2.1 ⟨pc47,pc48,trivial⟩) (ent Tryz.func17) fun x y h=>w17 h

def g3:Cfg:={ P:=Tryz.prog,take:=[],keep:=[((15,2),rowKp),((45,2),rowKp),((46,2),rowKp)],gho:=[((3,19),[.many (thawSlot 1 7)]),((3,2000019),[.many (frzSlot 1 7)]),((3,20),[.many (thawBox 1 8)]),((3,2000020),[.many (frzBox 1 8)]),((3,24),[.many (thawSlot 1 9)]),((3,2000024),[.many (frzSlot 1 9)])],ctx:=[(7,C7),(8,C8),(9,C9),(10,C10),(11,C11),(12,C12),(13,C13),(14,C14),(17,C17)] }
@[simp] theorem g3_s:type_of% (cfg_s (g:=g3) rfl):=cfg_s rfl
theorem w3 {aSet aS} {y} (hp:laws_FnExactAddToSet aSet aS=some y):∃ m,callo g3 0 3 [av .shr aSet,av .shr aS] mem0=some (Res.res y,m):=by
 have G_15:G15 g3:=⟨rfl,by kernel_rfl,rfl,fun t=>by simp,noAway (fun t=>by simp) (by simp) (fun t=>by simp),by simp [lookN],fun i=>by simp [lookK],by simp [g3,lookK],by simp⟩
 have G_45:G45 g3:=⟨rfl,by kernel_rfl,rfl,fun t=>by simp,noAway (fun t=>by simp) (by simp) (fun t=>by simp),by simp [lookN],fun i=>by simp [lookK],by simp [g3,lookK],by simp⟩
 have G_46:G46 g3:=⟨rfl,by kernel_rfl,rfl,fun t=>by simp,noAway (fun t=>by simp) (by simp) (fun t=>by simp),by simp [lookN],fun i=>by simp [lookK],by simp [g3,lookK],by simp⟩
 have G_16:G16 g3:=⟨rfl,by kernel_rfl,rfl,fun t=>by simp,noAway (fun t=>by simp) (by simp) (fun t=>by simp),by simp [lookN],fun i=>by simp [lookK],by simp [g3,lookK],by simp⟩
 refine st0 [.tmp 4] Tryz.func3 ?_
 unfold laws_FnExactAddToSet at hp
 obtain ⟨y_1,h_2,hp⟩:=zaa hp
 have c_3:=C7_eq h_2
 simp at c_3
 simp [Tryz.f3,c_3]
 rcases zad hp with ⟨h_4,hp⟩|⟨h_4,hp⟩
 ·try simp at h_4
  cases hp
  simp [Goal,FnEnd,h_4]
 ·try simp at h_4
  obtain ⟨y_5,h_6,hp⟩:=zaa hp
  have c_7:=C8_eq h_6
  simp at c_7
  try simp [h_4,c_7]
  rcases zad hp with ⟨h_8,hp⟩|⟨h_8,hp⟩
  ·try simp at h_8
   cases hp
   simp [Goal,FnEnd,h_4,h_8]
  ·try simp at h_8
   obtain ⟨y_9,h_10,hp⟩:=zaa hp
   have c_11:=znd h_10
   simp at c_11
   obtain ⟨y_12,h_13,hp⟩:=zaa hp
   have c_14:=C11_eq h_13
   simp at c_14
   obtain ⟨y_15,h_16,hp⟩:=zaa hp
   have c_17:=C9_eq h_16
   simp at c_17
   obtain ⟨y_18,h_19,hp⟩:=zaa hp
   cases Option.some.inj (h_10.symm.trans h_19)
   obtain ⟨y_20,h_21,hp⟩:=zaa hp
   cases Option.some.inj (h_13.symm.trans h_21)
   obtain ⟨y_22,h_23,hp⟩:=zaa hp
   have c_24:=C12_eq h_23
   simp at c_24
   obtain ⟨y_25,h_26,hp⟩:=zaa hp
   have c_27:=zgj h_26
   simp at c_27
   try simp [h_4,h_8,c_11,c_14,c_17,c_11,c_14,c_24,c_27]
   rcases zad hp with ⟨h_28,hp⟩|⟨h_28,hp⟩
   ·try simp at h_28
    obtain ⟨y_29,h_30,hp⟩:=zaa hp
    cases Option.some.inj (h_10.symm.trans h_30)
    obtain ⟨y_31,h_32,hp⟩:=zaa hp
    have c_33:=zgj h_32
    simp at c_33
    try simp [h_4,h_8,h_28,c_11,c_33]
    rcases zad hp with ⟨h_34,hp⟩|⟨h_34,hp⟩
    ·try simp at h_34
     obtain ⟨y_35,h_36,hp⟩:=zaa hp
     cases Option.some.inj (h_13.symm.trans h_36)
     obtain ⟨y_37,h_38,hp⟩:=zaa hp
     have c_39:=C14_eq h_38
     simp at c_39
     try simp [h_4,h_8,h_28,h_34,c_14,c_39]
     rcases zad hp with ⟨h_40,hp⟩|⟨h_40,hp⟩
     ·try simp at h_40
      obtain ⟨r_41,h_42,hp⟩:=zaa hp
      obtain ⟨lg_43,e_44⟩:=zfy h_42
      have mk_45:=mk15 G_15 G_45 G_46 y_9 1 lg_43
      rw [e_44] at mk_45
      try simp [h_4,h_8,h_28,h_34,h_40]
      refine zfo 7 10 50 51 52 15 mk_45 (by simp [h_4,h_8,h_28,h_34,h_40]) (fun _=>rfl) (by simp [h_4,h_8,h_28,h_34,h_40]) (WfE.wfE _) (WfE.wfE _) (fun key hkey=>by simp [mem0,zhl hkey 1 3 (by decide),zhl hkey 1 8 (by decide),h_4,h_8,h_28,h_34,h_40]) (by simp) (by simp) (by simp) rfl (by decide) fun σ_46 qq_47 hq_48 hx_49 hk_50 he_51 hd_52 hm_53=>?_
      obtain ⟨q_54,q_55,q_56,q_57,q_58,q_59,q_60,q_61⟩:σ_46.env 0=uL .shr aSet∧σ_46.env 3=uP (1,3)∧σ_46.env 6=uL .own y_15∧σ_46.env 8=uP (1,8)∧σ_46.env 9=uL .own y_22∧σ_46.env 10=uI r_41.2∧σ_46.mem (1,3)=some [cL .shr aS.nodes,cL .shr aS.next]∧σ_46.mem (1,8)=some [cL .own y_12.nodes,cL .own y_12.next]:=by refine ⟨(he_51 0 (by decide) (by decide) (by decide) (by decide) (by decide)).trans ?_,(he_51 3 (by decide) (by decide) (by decide) (by decide) (by decide)).trans ?_,(he_51 6 (by decide) (by decide) (by decide) (by decide) (by decide)).trans ?_,(he_51 8 (by decide) (by decide) (by decide) (by decide) (by decide)).trans ?_,(he_51 9 (by decide) (by decide) (by decide) (by decide) (by decide)).trans ?_,hk_50,(hm_53 (1,3) (by decide) (by decide)).trans ?_,(hm_53 (1,8) (by decide) (by decide)).trans ?_⟩ <;> simp [h_4,h_8,h_28,h_34,h_40,hq_48 (1,3) (by decide) (by decide),hq_48 (1,8) (by decide) (by decide)]
      have hn_62:NoBox [(1,3),(1,8)] σ_46.mem:=by
       intro key hk
       by_cases hl:1 < key.1∨bigK≤key.2
       ·exact hd_52 key hl
       ·rw [hm_53 key (by omega) (by omega)]
        simp at hk
        simp [mem0,hk,h_4,h_8,h_28,h_34,h_40]
      obtain ⟨r_63,h_64,hp⟩:=zaa hp
      obtain ⟨lg_65,e_66⟩:=zfy h_64
      have mk_67:=mk16 G_16 G_45 G_46 y_12 r_41.2 lg_65
      rw [e_66] at mk_67
      try simp [h_4,h_8,h_28,h_34,h_40,q_54,q_55,q_56,q_57,q_58,q_59,q_60,q_61]
      refine goal_markB 8 8 10 53 54 55 16 mk_67 (show ti g3.P 34=some _ from ti_34) rfl rfl (by decide) (by simp [h_4,h_8,h_28,h_34,h_40,q_54,q_55,q_56,q_57,q_58,q_59,q_60,q_61]) (by simp [h_4,h_8,h_28,h_34,h_40,q_54,q_55,q_56,q_57,q_58,q_59,q_60,q_61]) (by simp [h_4,h_8,h_28,h_34,h_40,q_54,q_55,q_56,q_57,q_58,q_59,q_60,q_61]) (WfE.wfE _) (WfE.wfE _) (fun key hkey=>by simp [mem0,zhl hkey 1 3 (by decide),zhl hkey 1 8 (by decide),h_4,h_8,h_28,h_34,h_40,q_54,q_55,q_56,q_57,q_58,q_59,q_60,q_61,hn_62 key (by simp [zhl hkey 1 3 (by decide),zhl hkey 1 8 (by decide)])]) (by simp) (by simp) (by simp) rfl (by decide) fun σ_68 qq_69 hq_70 hx_71 hk_72 he_73 hd_74 hm_75=>?_
      obtain ⟨q_76,q_77,q_78,q_79,q_80,q_81,q_82⟩:σ_68.env 0=uL .shr aSet∧σ_68.env 3=uP (1,3)∧σ_68.env 6=uL .own y_15∧σ_68.env 9=uL .own y_22∧σ_68.env 10=uI r_63.2∧σ_68.mem (1,3)=some [cL .shr aS.nodes,cL .shr aS.next]∧σ_68.mem (1,8)=some [cL .own r_63.1.nodes,cL .own r_63.1.next]:=by refine ⟨(he_73 0 (by decide) (by decide) (by decide) (by decide)).trans ?_,(he_73 3 (by decide) (by decide) (by decide) (by decide)).trans ?_,(he_73 6 (by decide) (by decide) (by decide) (by decide)).trans ?_,(he_73 9 (by decide) (by decide) (by decide) (by decide)).trans ?_,hk_72,(hm_75 (1,3) (by decide) (by decide) (by decide)).trans ?_,hx_71.trans (by simp)⟩ <;> simp [h_4,h_8,h_28,h_34,h_40,q_54,q_55,q_56,q_57,q_58,q_59,q_60,q_61,hq_70 (1,3) (by decide) (by decide),hq_70 (1,8) (by decide) (by decide)]
      have hn_83:NoBox [(1,3),(1,8)] σ_68.mem:=by
       intro key hk
       by_cases hl:1 < key.1∨bigK≤key.2
       ·exact hd_74 key hl
       ·rw [hm_75 key (by rintro rfl;simp at hk) (by omega) (by omega)]
        simp at hk
        simp [mem0,hk,h_4,h_8,h_28,h_34,h_40,q_54,q_55,q_56,q_57,q_58,q_59,q_60,q_61,hn_62 key (by simp [hk])]
      try simp [h_4,h_8,h_28,h_34,h_40,q_76,q_77,q_78,q_79,q_80,q_81,q_82]
      rcases zad hp with ⟨h_84,hp⟩|⟨h_84,hp⟩
      ·try simp at h_84
       cases hp
       simp [Goal,FnEnd,h_4,h_8,h_28,h_34,h_40,q_76,q_77,q_78,q_79,q_80,q_81,q_82,h_84]
      ·try simp at h_84
       obtain ⟨y_85,h_86,hp⟩:=zaa hp
       have c_87:=zgj h_86
       simp at c_87
       try simp [h_4,h_8,h_28,h_34,h_40,q_76,q_77,q_78,q_79,q_80,q_81,q_82,h_84,c_87]
       rcases zad hp with ⟨h_88,hp⟩|⟨h_88,hp⟩
       ·try simp at h_88
        obtain ⟨r_89,h_90,hp⟩:=zaa hp
        obtain ⟨lg_91,e_92⟩:=zfy h_90
        have mk_93:=mk15 G_15 G_45 G_46 y_22 1 lg_91
        rw [e_92] at mk_93
        try simp [h_4,h_8,h_28,h_34,h_40,q_76,q_77,q_78,q_79,q_80,q_81,q_82,h_84,h_88]
        refine zfo 9 11 64 65 66 15 mk_93 (by simp [h_4,h_8,h_28,h_34,h_40,q_76,q_77,q_78,q_79,q_80,q_81,q_82,h_84,h_88]) (fun _=>rfl) (by simp [h_4,h_8,h_28,h_34,h_40,q_76,q_77,q_78,q_79,q_80,q_81,q_82,h_84,h_88]) (WfE.wfE _) (WfE.wfE _) (fun key hkey=>by simp [mem0,zhl hkey 1 3 (by decide),zhl hkey 1 8 (by decide),h_4,h_8,h_28,h_34,h_40,q_76,q_77,q_78,q_79,q_80,q_81,q_82,h_84,h_88,hn_83 key (by simp [zhl hkey 1 3 (by decide),zhl hkey 1 8 (by decide)])]) (by simp) (by simp) (by simp) rfl (by decide) fun σ_94 qq_95 hq_96 hx_97 hk_98 he_99 hd_100 hm_101=>?_
        obtain ⟨q_102,q_103,q_104,q_105,q_106,q_107,q_108⟩:σ_94.env 0=uL .shr aSet∧σ_94.env 3=uP (1,3)∧σ_94.env 6=uL .own y_15∧σ_94.env 9=uL .own r_89.1∧σ_94.env 11=uI r_89.2∧σ_94.mem (1,3)=some [cL .shr aS.nodes,cL .shr aS.next]∧σ_94.mem (1,8)=some [cL .own r_63.1.nodes,cL .own r_63.1.next]:=by refine ⟨(he_99 0 (by decide) (by decide) (by decide) (by decide) (by decide)).trans ?_,(he_99 3 (by decide) (by decide) (by decide) (by decide) (by decide)).trans ?_,(he_99 6 (by decide) (by decide) (by decide) (by decide) (by decide)).trans ?_,hx_97.trans (by simp),hk_98,(hm_101 (1,3) (by decide) (by decide)).trans ?_,(hm_101 (1,8) (by decide) (by decide)).trans ?_⟩ <;> simp [h_4,h_8,h_28,h_34,h_40,q_76,q_77,q_78,q_79,q_80,q_81,q_82,h_84,h_88,hq_96 (1,3) (by decide) (by decide),hq_96 (1,8) (by decide) (by decide)]
        have hn_109:NoBox [(1,3),(1,8)] σ_94.mem:=by
         intro key hk
         by_cases hl:1 < key.1∨bigK≤key.2
         ·exact hd_100 key hl
         ·rw [hm_101 key (by omega) (by omega)]
          simp at hk
          simp [mem0,hk,h_4,h_8,h_28,h_34,h_40,q_76,q_77,q_78,q_79,q_80,q_81,q_82,h_84,h_88,hn_83 key (by simp [hk])]
        obtain ⟨y_110,h_111,hp⟩:=zaa hp
        have c_112:=C17_eq h_111
        simp at c_112
        try simp [h_4,h_8,h_28,h_34,h_40,h_84,h_88,q_102,q_103,q_104,q_105,q_106,q_107,q_108,c_112]
        rcases zad hp with ⟨h_113,hp⟩|⟨h_113,hp⟩
        ·try simp at h_113
         cases hp
         simp [Goal,FnEnd,h_4,h_8,h_28,h_34,h_40,h_84,h_88,q_102,q_103,q_104,q_105,q_106,q_107,q_108,h_113]
        ·try simp at h_113
         try simp [h_4,h_8,h_28,h_34,h_40,h_84,h_88,q_102,q_103,q_104,q_105,q_106,q_107,q_108,h_113]
         rcases zad hp with ⟨h_114,hp⟩|⟨h_114,hp⟩
         ·try simp at h_114
          cases hp
          simp [Goal,FnEnd,h_4,h_8,h_28,h_34,h_40,h_84,h_88,q_102,q_103,q_104,q_105,q_106,q_107,q_108,h_113,h_114]
         ·try simp at h_114
          obtain ⟨y_115,h_116,hp⟩:=zaa hp
          have c_117:=znd h_116
          simp at c_117
          obtain ⟨y_118,h_119,hp⟩:=zaa hp
          have c_120:=C11_eq h_119
          simp at c_120
          obtain ⟨y_121,h_122,hp⟩:=zaa hp
          have c_123:=C12_eq h_122
          simp at c_123
          obtain ⟨y_124,h_125,hp⟩:=zaa hp
          have c_126:=zgj h_125
          simp at c_126
          try simp [h_4,h_8,h_28,h_34,h_40,h_84,h_88,q_102,q_103,q_104,q_105,q_106,q_107,q_108,h_113,h_114,c_117,c_120,c_123,c_126]
          rcases zad hp with ⟨h_127,hp⟩|⟨h_127,hp⟩
          ·try simp at h_127
           obtain ⟨y_128,h_129,hp⟩:=zaa hp
           cases Option.some.inj (h_111.symm.trans h_129)
           cases hp
           simp [Goal,FnEnd,h_4,h_8,h_28,h_34,h_40,h_84,h_88,q_102,q_103,q_104,q_105,q_106,q_107,q_108,h_113,h_114,h_127,c_112]
          ·try simp at h_127
           cases hp
           simp [Goal,FnEnd,h_4,h_8,h_28,h_34,h_40,h_84,h_88,q_102,q_103,q_104,q_105,q_106,q_107,q_108,h_113,h_114,h_127]
       ·try simp at h_88
        cases hp
        simp [Goal,FnEnd,h_4,h_8,h_28,h_34,h_40,q_76,q_77,q_78,q_79,q_80,q_81,q_82,h_84,h_88]
     ·try simp at h_40
      cases hp
      simp [Goal,FnEnd,h_4,h_8,h_28,h_34,h_40]
    ·try simp at h_34
     cases hp
     simp [Goal,FnEnd,h_4,h_8,h_28,h_34]
   ·try simp at h_28
    cases hp
    simp [Goal,FnEnd,h_4,h_8,h_28]
end Go.Proofs


set_option maxHeartbeats 4000000
set_option maxRecDepth 100000
namespace Go.Proofs
open Go.Ev
def C49:List AV→Option AV:=specP (X:=(List TStructure) × Unit) fun x=>zmu x.1
def g49:Cfg:={ P:=Tryz.prog,take:=[(49,12),(49,20)],keep:=[((49,3),{ hd:=[0,3,4],bx:=[],ex:=[3],rt:=[2] })],gho:=[],ctx:=[(32,C32)] }
@[simp] theorem g49_s:type_of% (cfg_s (g:=g49) rfl):=cfg_s rfl
def C18:List AV→Option AV:=specP (X:=(List TStructure) × (List TStructure) × Unit) fun x=>zhj x.1 x.2.1
theorem C18_eq {a_ b_} {y} (h:zhj a_ b_=some y):C18 [av .shr a_,av .shr b_]=some (Res.res y):=zaf (x:=(a_,b_,())) h
def g18:Cfg:={ P:=Tryz.prog,take:=[(18,21)],keep:=[((18,3),{ hd:=[1,5,6],bx:=[],ex:=[5],rt:=[4] })],gho:=[],ctx:=[(9,C9),(49,C49)] }
@[simp] theorem g18_s:type_of% (cfg_s (g:=g18) rfl):=cfg_s rfl
def C19:List AV→Option AV:=specP (X:=(List TStructure) × (List TStructure) × Unit) fun x=>zfz x.1 x.2.1
theorem C19_eq {a_ b_} {y} (h:zfz a_ b_=some y):C19 [av .shr a_,av .shr b_]=some (Res.res y):=zaf (x:=(a_,b_,())) h
def g19:Cfg:={ P:=Tryz.prog,take:=[(19,20)],keep:=[((19,3),{ hd:=[5,10,11,12],bx:=[7],ex:=[5],rt:=[4] })],gho:=[],ctx:=[(12,C12),(35,C35)] }
@[simp] theorem g19_s:type_of% (cfg_s (g:=g19) rfl):=cfg_s rfl
def g4:Cfg:={ P:=Tryz.prog,take:=[],keep:=[((15,2),rowKp),((45,2),rowKp),((46,2),rowKp)],gho:=[((4,19),[.many (thawSlot 1 7)]),((4,2000019),[.many (frzSlot 1 7)]),((4,20),[.many (thawSlot 1 8)]),((4,2000020),[.many (frzSlot 1 8)]),((4,24),[.many (thawSlot 1 9)]),((4,2000024),[.many (frzSlot 1 9)])],ctx:=[(7,C7),(10,C10),(13,C13),(17,C17),(18,C18),(19,C19)] }
@[simp] theorem g4_s:type_of% (cfg_s (g:=g4) rfl):=cfg_s rfl
theorem w4 {aA aB} {y} (hp:laws_FnExactUniteSets aA aB=some y):∃ m,callo g4 0 4 [av .shr aA,av .shr aB] mem0=some (Res.res y,m):=by
 have G_15:G15 g4:=⟨rfl,by kernel_rfl,rfl,fun t=>by simp,noAway (fun t=>by simp) (by simp) (fun t=>by simp),by simp [lookN],fun i=>by simp [lookK],by simp [g4,lookK],by simp⟩
 have G_45:G45 g4:=⟨rfl,by kernel_rfl,rfl,fun t=>by simp,noAway (fun t=>by simp) (by simp) (fun t=>by simp),by simp [lookN],fun i=>by simp [lookK],by simp [g4,lookK],by simp⟩
 have G_46:G46 g4:=⟨rfl,by kernel_rfl,rfl,fun t=>by simp,noAway (fun t=>by simp) (by simp) (fun t=>by simp),by simp [lookN],fun i=>by simp [lookK],by simp [g4,lookK],by simp⟩
 refine st0 [.tmp 4] Tryz.func4 ?_
 unfold laws_FnExactUniteSets at hp
 obtain ⟨y_1,h_2,hp⟩:=zaa hp
 have c_3:=C7_eq h_2
 simp at c_3
 simp [Tryz.f4,c_3]
 rcases zad hp with ⟨h_4,hp⟩|⟨h_4,hp⟩
 ·try simp at h_4
  cases hp
  simp [Goal,FnEnd,h_4]
 ·try simp at h_4
  obtain ⟨y_5,h_6,hp⟩:=zaa hp
  have c_7:=C7_eq h_6
  simp at c_7
  try simp [h_4,c_7]
  rcases zad hp with ⟨h_8,hp⟩|⟨h_8,hp⟩
  ·try simp at h_8
   cases hp
   simp [Goal,FnEnd,h_4,h_8]
  ·try simp at h_8
   obtain ⟨y_9,h_10,hp⟩:=zaa hp
   have c_11:=znd h_10
   simp at c_11
   obtain ⟨y_12,h_13,hp⟩:=zaa hp
   have c_14:=znd h_13
   simp at c_14
   obtain ⟨y_15,h_16,hp⟩:=zaa hp
   have c_17:=C18_eq h_16
   simp at c_17
   obtain ⟨y_18,h_19,hp⟩:=zaa hp
   cases Option.some.inj (h_10.symm.trans h_19)
   obtain ⟨y_20,h_21,hp⟩:=zaa hp
   cases Option.some.inj (h_13.symm.trans h_21)
   obtain ⟨y_22,h_23,hp⟩:=zaa hp
   have c_24:=C19_eq h_23
   simp at c_24
   obtain ⟨y_25,h_26,hp⟩:=zaa hp
   have c_27:=zgj h_26
   simp at c_27
   try simp [h_4,h_8,c_11,c_14,c_17,c_11,c_14,c_24,c_27]
   rcases zad hp with ⟨h_28,hp⟩|⟨h_28,hp⟩
   ·try simp at h_28
    obtain ⟨y_29,h_30,hp⟩:=zaa hp
    cases Option.some.inj (h_10.symm.trans h_30)
    obtain ⟨y_31,h_32,hp⟩:=zaa hp
    have c_33:=zgj h_32
    simp at c_33
    try simp [h_4,h_8,h_28,c_11,c_33]
    rcases zad hp with ⟨h_34,hp⟩|⟨h_34,hp⟩
    ·try simp at h_34
     obtain ⟨y_35,h_36,hp⟩:=zaa hp
     cases Option.some.inj (h_13.symm.trans h_36)
     obtain ⟨y_37,h_38,hp⟩:=zaa hp
     have c_39:=zgj h_38
     simp at c_39
     try simp [h_4,h_8,h_28,h_34,c_14,c_39]
     rcases zad hp with ⟨h_40,hp⟩|⟨h_40,hp⟩
     ·try simp at h_40
      obtain ⟨r_41,h_42,hp⟩:=zaa hp
      obtain ⟨lg_43,e_44⟩:=zfy h_42
      have mk_45:=mk15 G_15 G_45 G_46 y_9 1 lg_43
      rw [e_44] at mk_45
      try simp [h_4,h_8,h_28,h_34,h_40]
      refine zfo 7 10 50 51 52 15 mk_45 (by simp [h_4,h_8,h_28,h_34,h_40]) (fun _=>rfl) (by simp [h_4,h_8,h_28,h_34,h_40]) (WfE.wfE _) (WfE.wfE _) (fun key hkey=>by simp [mem0,h_4,h_8,h_28,h_34,h_40]) (by simp) (by simp) (by simp) rfl (by decide) fun σ_46 qq_47 hq_48 hx_49 hk_50 he_51 hd_52 hm_53=>?_
      obtain ⟨q_54,q_55,q_56,q_57,q_58,q_59⟩:σ_46.env 0=uL .shr aA∧σ_46.env 1=uL .shr aB∧σ_46.env 6=uL .own y_15∧σ_46.env 8=uL .own y_12∧σ_46.env 9=uL .own y_22∧σ_46.env 10=uI r_41.2:=by refine ⟨(he_51 0 (by decide) (by decide) (by decide) (by decide) (by decide)).trans ?_,(he_51 1 (by decide) (by decide) (by decide) (by decide) (by decide)).trans ?_,(he_51 6 (by decide) (by decide) (by decide) (by decide) (by decide)).trans ?_,(he_51 8 (by decide) (by decide) (by decide) (by decide) (by decide)).trans ?_,(he_51 9 (by decide) (by decide) (by decide) (by decide) (by decide)).trans ?_,hk_50⟩ <;> simp [h_4,h_8,h_28,h_34,h_40]
      have hn_60:NoBox [] σ_46.mem:=by
       intro key hk
       by_cases hl:1 < key.1∨bigK≤key.2
       ·exact hd_52 key hl
       ·rw [hm_53 key (by omega) (by omega)]
        simp at hk
        simp [mem0,hk,h_4,h_8,h_28,h_34,h_40]
      obtain ⟨r_61,h_62,hp⟩:=zaa hp
      obtain ⟨lg_63,e_64⟩:=zfy h_62
      have mk_65:=mk15 G_15 G_45 G_46 y_12 r_41.2 lg_63
      rw [e_64] at mk_65
      try simp [h_4,h_8,h_28,h_34,h_40,q_54,q_55,q_56,q_57,q_58,q_59]
      refine zfo 8 10 53 54 55 15 mk_65 (by simp [h_4,h_8,h_28,h_34,h_40,q_54,q_55,q_56,q_57,q_58,q_59]) (fun _=>rfl) (by simp [h_4,h_8,h_28,h_34,h_40,q_54,q_55,q_56,q_57,q_58,q_59]) (WfE.wfE _) (WfE.wfE _) (fun key hkey=>by simp [mem0,h_4,h_8,h_28,h_34,h_40,q_54,q_55,q_56,q_57,q_58,q_59,hn_60 key (by simp)]) (by simp) (by simp) (by simp) rfl (by decide) fun σ_66 qq_67 hq_68 hx_69 hk_70 he_71 hd_72 hm_73=>?_
      obtain ⟨q_74,q_75,q_76,q_77,q_78⟩:σ_66.env 0=uL .shr aA∧σ_66.env 1=uL .shr aB∧σ_66.env 6=uL .own y_15∧σ_66.env 9=uL .own y_22∧σ_66.env 10=uI r_61.2:=by refine ⟨(he_71 0 (by decide) (by decide) (by decide) (by decide) (by decide)).trans ?_,(he_71 1 (by decide) (by decide) (by decide) (by decide) (by decide)).trans ?_,(he_71 6 (by decide) (by decide) (by decide) (by decide) (by decide)).trans ?_,(he_71 9 (by decide) (by decide) (by decide) (by decide) (by decide)).trans ?_,hk_70⟩ <;> simp [h_4,h_8,h_28,h_34,h_40,q_54,q_55,q_56,q_57,q_58,q_59]
      have hn_79:NoBox [] σ_66.mem:=by
       intro key hk
       by_cases hl:1 < key.1∨bigK≤key.2
       ·exact hd_72 key hl
       ·rw [hm_73 key (by omega) (by omega)]
        simp at hk
        simp [mem0,hk,h_4,h_8,h_28,h_34,h_40,q_54,q_55,q_56,q_57,q_58,q_59,hn_60 key (by simp [hk])]
      try simp [h_4,h_8,h_28,h_34,h_40,q_74,q_75,q_76,q_77,q_78]
      rcases zad hp with ⟨h_80,hp⟩|⟨h_80,hp⟩
      ·try simp at h_80
       cases hp
       simp [Goal,FnEnd,h_4,h_8,h_28,h_34,h_40,q_74,q_75,q_76,q_77,q_78,h_80]
      ·try simp at h_80
       obtain ⟨y_81,h_82,hp⟩:=zaa hp
       have c_83:=zgj h_82
       simp at c_83
       try simp [h_4,h_8,h_28,h_34,h_40,q_74,q_75,q_76,q_77,q_78,h_80,c_83]
       rcases zad hp with ⟨h_84,hp⟩|⟨h_84,hp⟩
       ·try simp at h_84
        obtain ⟨r_85,h_86,hp⟩:=zaa hp
        obtain ⟨lg_87,e_88⟩:=zfy h_86
        have mk_89:=mk15 G_15 G_45 G_46 y_22 1 lg_87
        rw [e_88] at mk_89
        try simp [h_4,h_8,h_28,h_34,h_40,q_74,q_75,q_76,q_77,q_78,h_80,h_84]
        refine zfo 9 11 64 65 66 15 mk_89 (by simp [h_4,h_8,h_28,h_34,h_40,q_74,q_75,q_76,q_77,q_78,h_80,h_84]) (fun _=>rfl) (by simp [h_4,h_8,h_28,h_34,h_40,q_74,q_75,q_76,q_77,q_78,h_80,h_84]) (WfE.wfE _) (WfE.wfE _) (fun key hkey=>by simp [mem0,h_4,h_8,h_28,h_34,h_40,q_74,q_75,q_76,q_77,q_78,h_80,h_84,hn_79 key (by simp)]) (by simp) (by simp) (by simp) rfl (by decide) fun σ_90 qq_91 hq_92 hx_93 hk_94 he_95 hd_96 hm_97=>?_
        obtain ⟨q_98,q_99,q_100,q_101,q_102⟩:σ_90.env 0=uL .shr aA∧σ_90.env 1=uL .shr aB∧σ_90.env 6=uL .own y_15∧σ_90.env 9=uL .own r_85.1∧σ_90.env 11=uI r_85.2:=by refine ⟨(he_95 0 (by decide) (by decide) (by decide) (by decide) (by decide)).trans ?_,(he_95 1 (by decide) (by decide) (by decide) (by decide) (by decide)).trans ?_,(he_95 6 (by decide) (by decide) (by decide) (by decide) (by decide)).trans ?_,hx_93.trans (by simp),hk_94⟩ <;> simp [h_4,h_8,h_28,h_34,h_40,q_74,q_75,q_76,q_77,q_78,h_80,h_84]
        have hn_103:NoBox [] σ_90.mem:=by
         intro key hk
         by_cases hl:1 < key.1∨bigK≤key.2
         ·exact hd_96 key hl
         ·rw [hm_97 key (by omega) (by omega)]
          simp at hk
          simp [mem0,hk,h_4,h_8,h_28,h_34,h_40,q_74,q_75,q_76,q_77,q_78,h_80,h_84,hn_79 key (by simp [hk])]
        obtain ⟨y_104,h_105,hp⟩:=zaa hp
        have c_106:=C17_eq h_105
        simp at c_106
        try simp [h_4,h_8,h_28,h_34,h_40,h_80,h_84,q_98,q_99,q_100,q_101,q_102,c_106]
        rcases zad hp with ⟨h_107,hp⟩|⟨h_107,hp⟩
        ·try simp at h_107
         cases hp
         simp [Goal,FnEnd,h_4,h_8,h_28,h_34,h_40,h_80,h_84,q_98,q_99,q_100,q_101,q_102,h_107]
        ·try simp at h_107
         try simp [h_4,h_8,h_28,h_34,h_40,h_80,h_84,q_98,q_99,q_100,q_101,q_102,h_107]
         rcases zad hp with ⟨h_108,hp⟩|⟨h_108,hp⟩
         ·try simp at h_108
          cases hp
          simp [Goal,FnEnd,h_4,h_8,h_28,h_34,h_40,h_80,h_84,q_98,q_99,q_100,q_101,q_102,h_107,h_108]
         ·try simp at h_108
          obtain ⟨y_109,h_110,hp⟩:=zaa hp
          have c_111:=znd h_110
          simp at c_111
          obtain ⟨y_112,h_113,hp⟩:=zaa hp
          have c_114:=znd h_113
          simp at c_114
          obtain ⟨y_115,h_116,hp⟩:=zaa hp
          have c_117:=C19_eq h_116
          simp at c_117
          obtain ⟨y_118,h_119,hp⟩:=zaa hp
          have c_120:=zgj h_119
          simp at c_120
          try simp [h_4,h_8,h_28,h_34,h_40,h_80,h_84,q_98,q_99,q_100,q_101,q_102,h_107,h_108,c_111,c_114,c_117,c_120]
          rcases zad hp with ⟨h_121,hp⟩|⟨h_121,hp⟩
          ·try simp at h_121
           obtain ⟨y_122,h_123,hp⟩:=zaa hp
           cases Option.some.inj (h_105.symm.trans h_123)
           cases hp
           simp [Goal,FnEnd,h_4,h_8,h_28,h_34,h_40,h_80,h_84,q_98,q_99,q_100,q_101,q_102,h_107,h_108,h_121,c_106]
          ·try simp at h_121
           cases hp
           simp [Goal,FnEnd,h_4,h_8,h_28,h_34,h_40,h_80,h_84,q_98,q_99,q_100,q_101,q_102,h_107,h_108,h_121]
       ·try simp at h_84
        cases hp
        simp [Goal,FnEnd,h_4,h_8,h_28,h_34,h_40,q_74,q_75,q_76,q_77,q_78,h_80,h_84]
     ·try simp at h_40
      cases hp
      simp [Goal,FnEnd,h_4,h_8,h_28,h_34,h_40]
    ·try simp at h_34
     cases hp
     simp [Goal,FnEnd,h_4,h_8,h_28,h_34]
   ·try simp at h_28
    cases hp
    simp [Goal,FnEnd,h_4,h_8,h_28]
def C51:List AV→Option AV:=specP (X:=THeap × Int × Unit) fun x=>laws_szHeap x.1 x.2.1
def g51:Cfg:={ P:=Tryz.prog,take:=[],keep:=[],gho:=[],ctx:=[(29,C29)] }
@[simp] theorem g51_s:type_of% (cfg_s (g:=g51) rfl):=cfg_s rfl
def C22:List AV→Option AV:=specP (X:=(List THeap) × Int × Unit) fun x=>laws_szHeapS x.1 x.2.1
theorem C22_eq {a_ left} {y} (h:laws_szHeapS a_ left=some y):C22 [av .shr a_,av .shr left]=some (Res.res y):=zaf (x:=(a_,left,())) h
def g22:Cfg:={ P:=Tryz.prog,take:=[],keep:=[((22,5),{ hd:=[0,1,5],bx:=[],ex:=[1],rt:=[4] })],gho:=[],ctx:=[(51,C51)] }
@[simp] theorem g22_s:type_of% (cfg_s (g:=g22) rfl):=cfg_s rfl
def C53:List AV→Option AV:=specP (X:=THeap × Unit) fun x=>laws_toHeap x.1
def g53:Cfg:={ P:=Tryz.prog,take:=[(53,12)],keep:=[],gho:=[],ctx:=[(34,C34)] }
@[simp] theorem g53_s:type_of% (cfg_s (g:=g53) rfl):=cfg_s rfl
def C24:List AV→Option AV:=specP (X:=(List THeap) × Unit) fun x=>laws_toHeapS x.1
theorem C24_eq {a_} {y} (h:laws_toHeapS a_=some y):C24 [av .shr a_]=some (Res.res y):=zaf (x:=(a_,())) h
def g24:Cfg:={ P:=Tryz.prog,take:=[(24,7)],keep:=[((24,3),{ hd:=[0,3,4],bx:=[],ex:=[3],rt:=[2] })],gho:=[((24,atEnd),[.frz (.sl 2 0)])],ctx:=[(53,C53)] }
@[simp] theorem g24_s:type_of% (cfg_s (g:=g24) rfl):=cfg_s rfl
def C107:List AV→Option AV:=specP (X:=THeap × Unit) fun x=>zmt x.1
def g107:Cfg:={ P:=Tryz.prog,take:=[],keep:=[((107,2),{ hd:=[1,3],bx:=[],ex:=[1],rt:=[2] }),((107,7),{ hd:=[1,4],bx:=[],ex:=[],rt:=[2] })],gho:=[],ctx:=[(62,C62)] }
@[simp] theorem g107_s:type_of% (cfg_s (g:=g107) rfl):=cfg_s rfl
def C109:List AV→Option AV:=specP (X:=(List Int) × Int × Unit) fun x=>zhk x.1 x.2.1
def g109:Cfg:={ P:=Tryz.prog,take:=[(109,20),(109,24)],keep:=[((109,3),{ hd:=[0,1,5,6],bx:=[],ex:=[5],rt:=[4] })],gho:=[],ctx:=[] }
@[simp] theorem g109_s:type_of% (cfg_s (g:=g109) rfl):=cfg_s rfl
def C108:List AV→Option AV:=specP (X:=Bool × Unit) fun x=>ziw x.1
def g108:Cfg:={ P:=Tryz.prog,take:=[],keep:=[],gho:=[],ctx:=[] }
@[simp] theorem g108_s:type_of% (cfg_s (g:=g108) rfl):=cfg_s rfl
def C110:List AV→Option AV:=specP (X:=(List Int) × Int × Unit) fun x=>zme x.1 x.2.1
def g110:Cfg:={ P:=Tryz.prog,take:=[],keep:=[],gho:=[],ctx:=[(109,C109)] }
@[simp] theorem g110_s:type_of% (cfg_s (g:=g110) rfl):=cfg_s rfl
def C111:List AV→Option AV:=specP (X:=THeap × Int × Unit) fun x=>zlc x.1 x.2.1
def g111:Cfg:={ P:=Tryz.prog,take:=[(111,23),(111,32)],keep:=[((111,2),{ hd:=[1,2,5],bx:=[],ex:=[5],rt:=[4] })],gho:=[],ctx:=[(62,C62),(110,C110)] }
@[simp] theorem g111_s:type_of% (cfg_s (g:=g111) rfl):=cfg_s rfl
def C78:List AV→Option AV:=specP (X:=THeap × Unit) fun x=>zip x.1
def g78:Cfg:={ P:=Tryz.prog,take:=[(78,49),(78,62),(78,77),(78,78),(78,88),(78,100)],keep:=[((78,6),{ hd:=[1,2,3,4,5],bx:=[6],ex:=[2,4],rt:=[2] }),((78,10),{ hd:=[1,2,3,4,5,6,7],bx:=[],ex:=[1,2,3,4,5,6],rt:=[2] }),((78,16),{ hd:=[1,2,3,4,5,8],bx:=[],ex:=[1,2,3,4,5],rt:=[2] })],gho:=[],ctx:=[(62,C62),(107,C107),(108,C108),(109,C109),(110,C110),(111,C111)] }
@[simp] theorem g78_s:type_of% (cfg_s (g:=g78) rfl):=cfg_s rfl
def C52:List AV→Option AV:=specP (X:=THeap × Unit) fun x=>zgx x.1
def g52:Cfg:={ P:=Tryz.prog,take:=[],keep:=[],gho:=[],ctx:=[(30,C30),(78,C78)] }
@[simp] theorem g52_s:type_of% (cfg_s (g:=g52) rfl):=cfg_s rfl
def C23:List AV→Option AV:=specP (X:=(List THeap) × Unit) fun x=>zgh x.1
theorem C23_eq {list} {y} (h:zgh list=some y):C23 [av .shr list]=some (Res.res y):=zaf (x:=(list,())) h
def g23:Cfg:={ P:=Tryz.prog,take:=[(23,19)],keep:=[((23,3),{ hd:=[0,3,4],bx:=[],ex:=[3],rt:=[2] })],gho:=[],ctx:=[(9,C9),(52,C52)] }
@[simp] theorem g23_s:type_of% (cfg_s (g:=g23) rfl):=cfg_s rfl
def C145:List AV→Option AV:=specP (X:=THeap × Int × Unit) fun x=>zfc x.1 x.2.1
def g145:Cfg:={ P:=Tryz.prog,take:=[],keep:=[],gho:=[],ctx:=[(88,C88)] }
@[simp] theorem g145_s:type_of% (cfg_s (g:=g145) rfl):=cfg_s rfl
end Go.Proofs

