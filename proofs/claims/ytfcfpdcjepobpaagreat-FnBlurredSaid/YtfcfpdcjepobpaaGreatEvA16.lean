import Derived.Test.YtfcfpdcjepobpaaGreatEvA15
set_option linter.unusedSimpArgs false
set_option linter.unusedVariables false
set_option linter.unnecessarySimpa false
noncomputable section
set_option maxHeartbeats 4000000
set_option maxRecDepth 100000
namespace Go.Proofs
open Go.Ev
def C21:List AV→Option AV:=specP (X:=TStructure × Unit) fun x=>zfy x.1
theorem C21_eq {s} {y} (h:zfy s=some y):C21 [av .shr s]=some (Res.res y):=zah (x:=(s,())) h
def g21:Cfg:={ P:=Tryz.prog,take:=[(21,99),(21,100),(21,111),(21,125)],keep:=[((21,17),{ hd:=[1,2,3,4,7,60,61,62],bx:=[10],ex:=[2,7],rt:=[2] }),((21,21),{ hd:=[1,2,3,4,7,9,10,60,61,62,78,79,80],bx:=[],ex:=[1,2,3,4,7,9,10,60,61,62],rt:=[2] }),((21,28),{ hd:=[1,2,3,4,7,9,60,61,62,104,105,106],bx:=[],ex:=[1,2,3,4,7,60,61,62],rt:=[2] })],gho:=[],ctx:=[(26,C26),(47,C47),(48,C48),(49,C49),(52,C52),(53,C53)] }
@[simp] theorem g21_s:type_of% (cfg_s (g:=g21) rfl):=cfg_s rfl
theorem w21 {s} {y} (hp:zfy s=some y):∃ m,callP g21 21 (Tryz.f21.body.getD .skip) [.cell 2 32] 2 3 (pre12 C26) [av .shr s]=some (Res.res y,m):=by
 refine start_pre [.cell 2 32] ?_
 unfold zfy at hp
 simp [Tryz.f21,takeS,dropS]
 rcases zad hp with ⟨h_1,hp⟩|⟨h_1,hp⟩
 ·try simp at h_1
  cases hp
  simp [Goal,FnEnd,retR,rsrc,RSrc.val,nodupR,nodup,tupPart,h_1]
 ·try simp at h_1
  obtain ⟨y_2,h_3,hp⟩:=zaa hp
  have c_4:=C48_eq h_3
  simp at c_4
  obtain ⟨y_5,h_6,hp⟩:=zaa hp
  have c_7:=C47_eq h_6
  simp at c_7
  try simp [h_1,c_4,c_7]
  rcases zad hp with ⟨h_8,hp⟩|⟨h_8,hp⟩
  ·try simp at h_8
   obtain ⟨p_9,h_10,hp⟩:=zaa hp
   try simp [h_1,h_8]
   refine goal_pre (pre12_eq (F:=C26) (fun s i x h=>C26_eq h) (s:=s) h_10 (by simp [h_1,h_8]) (by simp [h_1,h_8])) ?_
   try simp [h_1,h_8]
   obtain ⟨r_96,h_97,hp⟩:=zaa hp
   obtain ⟨I_13,I_13_⟩:=exV fun (s_11:Int × (List TNode) × (List Int)) (σ:St)=>(σ.env 1=uP (1,1)∧σ.env 2=uP (1,2)∧σ.env 3=.one (.mp (encM p_9.1))∧σ.env 4=uL .shr p_9.2∧σ.env 7=uP (1,7)∧σ.env 60=uL .shr p_9.2∧σ.env 61=uI (p_9.2.length:Int)∧σ.env 62=uI s_11.1∧σ.mem (1,1)=some [cL .shr s.nodes,cL .shr s.next]∧σ.mem (1,2)=some [.l .own 0 [],.l .own 0 []]∧σ.mem (1,7)=some [cL .own s_11.2.1,cL .own s_11.2.2])∧NoBox [(1,1),(1,2),(1,7)] σ.mem
   obtain ⟨X_14,X_14_⟩:=exV fun (r_96:(List TNode) × (List Int)) (out:Out)=>∃ σ:St,out=.exit 3 σ∧(σ.env 2=uP (1,2)∧σ.env 7=uP (1,7)∧σ.mem (1,1)=some [cL .shr s.nodes,cL .shr s.next]∧σ.mem (1,2)=some [.l .own 0 [],.l .own 0 []]∧σ.mem (1,7)=some [cL .own r_96.1,cL .own r_96.2])∧NoBox [(1,1),(1,2),(1,7)] σ.mem
   refine loopP ({ hd:=[1,2,3,4,7,60,61,62],bx:=[10],ex:=[2,7],rt:=[2] }) I_13 X_14 h_97 (by exact rfl) ?_ ?_ ?_
   ·rw [I_13_]
    exact ⟨by simp [zac,zab,h_1,h_8],NoBox.restrict (by intro k hk hb;simp at hk hb;simp [hk,hb,h_1,h_8])⟩
   ·intro s_11 σ_15 a_12 hI hp
    rw [I_13_] at hI
    obtain ⟨q_17,hn_16⟩:=hI
    try simp [h_1,h_8,q_17]
    rcases zad hp with ⟨h_18,hp⟩|⟨h_18,hp⟩
    ·try simp at h_18
     obtain ⟨e_19,h_20,hp⟩:=zaa hp
     have b_21:=at_lo h_20
     have b_22:=at_hi h_20
     try simp at b_21 b_22
     have c_23:=seg_at' h_20 0 1 (by decide) (ds:=[.sc (.string e_19)]) rfl
     try simp at c_23
     obtain ⟨y_24,h_25,hp⟩:=zaa hp
     have c_26:=znn h_25
     obtain ⟨e_27,h_28,hp⟩:=zaa hp
     have b_30:=at_hi h_28
     try simp at b_30
     have c_31:=seg_at' h_28 0 1 (by decide) (ds:=[.sc (.int .i64 e_27)]) rfl
     try simp at c_31
     obtain ⟨e_32,h_33,hp⟩:=zaa hp
     have b_34:=at_lo h_33
     have b_35:=at_hi h_33
     try simp at b_34 b_35
     have c_36:=seg_at' h_33 0 4 (by decide) (ds:=[.sl e_32.vars.length (encL e_32.vars),.sl e_32.reach.length (encL e_32.reach),.sc (.int .i64 e_32.shared),.sc (.int .i64 e_32.many)]) rfl
     try simp at c_36
     obtain ⟨y_37,h_38,hp⟩:=zaa hp
     have c_39:=C52_eq h_38
     simp at c_39
     have n_40:=hn_16 (1,10) (by simp)
     obtain ⟨_,h_41,hp⟩:=zaa hp
     cases Option.some.inj (h_25.symm.trans h_41)
     try simp [h_1,h_8,q_17,h_18,b_21,b_22,c_23,Tryz.underlying70,Tryz.underlying9,c_26,b_30,c_31,b_34,b_35,c_36,c_39,n_40,Tryz.underlying70,Tryz.underlying9,c_26]
     obtain ⟨r_62,h_63,hp⟩:=zaa hp
     obtain ⟨I_44,I_44_⟩:=exV fun (s_42:Int × Int) (σ:St)=>(σ.env 1=uP (1,1)∧σ.env 2=uP (1,2)∧σ.env 3=.one (.mp (encM p_9.1))∧σ.env 4=uL .shr p_9.2∧σ.env 7=uP (1,7)∧σ.env 9=.one (.s (.string e_19))∧σ.env 10=uP (1,10)∧σ.env 60=uL .shr p_9.2∧σ.env 61=uI (p_9.2.length:Int)∧σ.env 62=uI s_11.1∧σ.env 78=uL .shr y_24∧σ.env 79=uI (y_24.length:Int)∧σ.env 80=uI s_42.1∧σ.mem (1,1)=some [cL .shr s.nodes,cL .shr s.next]∧σ.mem (1,2)=some [.l .own 0 [],.l .own 0 []]∧σ.mem (1,7)=some [cL .own s_11.2.1,cL .own s_11.2.2]∧σ.mem (1,10)=some [cL .own y_37.vars,cL .own y_37.reach,cI y_37.shared,cI s_42.2])∧NoBox [(1,1),(1,2),(1,7),(1,10)] σ.mem
     obtain ⟨X_45,X_45_⟩:=exV fun (r_62:Int) (out:Out)=>∃ σ:St,out=.exit 5 σ∧(σ.env 1=uP (1,1)∧σ.env 2=uP (1,2)∧σ.env 3=.one (.mp (encM p_9.1))∧σ.env 4=uL .shr p_9.2∧σ.env 7=uP (1,7)∧σ.env 9=.one (.s (.string e_19))∧σ.env 10=uP (1,10)∧σ.env 60=uL .shr p_9.2∧σ.env 61=uI (p_9.2.length:Int)∧σ.env 62=uI s_11.1∧σ.mem (1,1)=some [cL .shr s.nodes,cL .shr s.next]∧σ.mem (1,2)=some [.l .own 0 [],.l .own 0 []]∧σ.mem (1,7)=some [cL .own s_11.2.1,cL .own s_11.2.2]∧σ.mem (1,10)=some [cL .own y_37.vars,cL .own y_37.reach,cI y_37.shared,cI r_62])∧NoBox [(1,1),(1,2),(1,7),(1,10)] σ.mem
     refine loopP ({ hd:=[1,2,3,4,7,9,10,60,61,62,78,79,80],bx:=[],ex:=[1,2,3,4,7,9,10,60,61,62],rt:=[2] }) I_44 X_45 h_63 (by exact rfl) ?_ ?_ ?_
     ·rw [I_44_]
      exact ⟨by simp [zac,zab,h_1,h_8,q_17,h_18],NoBox.restrict (by intro k hk hb;simp at hk hb;simp [hk,hb,h_1,h_8,q_17,h_18,hn_16 k (by simp [hk,hb])])⟩
     ·intro s_42 σ_46 a_43 hI hp
      rw [I_44_] at hI
      obtain ⟨q_48,hn_47⟩:=hI
      try simp [h_1,h_8,h_18,q_48]
      rcases zad hp with ⟨h_49,hp⟩|⟨h_49,hp⟩
      ·try simp at h_49
       obtain ⟨e_50,h_51,hp⟩:=zaa hp
       have b_52:=at_lo h_51
       have b_53:=at_hi h_51
       try simp at b_52 b_53
       have c_54:=seg_at' h_51 0 1 (by decide) (ds:=[.sc (.int .i64 e_50)]) rfl
       try simp at c_54
       try simp [h_1,h_8,h_18,q_48,h_49,b_52,b_53,c_54]
       rcases zad hp with ⟨h_55,hp⟩|⟨h_55,hp⟩
       ·try simp at h_55
        cases hp
        try simp [h_1,h_8,h_18,q_48,h_49,h_55]
        refine zaf ?_
        rw [I_44_]
        exact ⟨by simp [zac,zab,h_1,h_8,h_18,q_48,h_49,h_55],NoBox.restrict (by intro k hk hb;simp at hk hb;simp [hk,hb,h_1,h_8,h_18,q_48,h_49,h_55,hn_47 k (by simp [hk,hb])])⟩
       ·try simp at h_55
        obtain ⟨e_56,h_57,hp⟩:=zaa hp
        have b_58:=at_lo h_57
        have b_59:=at_hi h_57
        try simp at b_58 b_59
        have c_60:=seg_at' h_57 3 1 (by decide) (ds:=[.sc (.int .i64 e_56.many)]) rfl
        try simp at c_60
        try simp [h_1,h_8,h_18,q_48,h_49,h_55,b_58,b_59,c_60]
        rcases zad hp with ⟨h_61,hp⟩|⟨h_61,hp⟩
        ·try simp at h_61
         cases hp
         try simp [h_1,h_8,h_18,q_48,h_49,h_55,h_61]
         refine zaf ?_
         rw [I_44_]
         exact ⟨by simp [zac,zab,h_1,h_8,h_18,q_48,h_49,h_55,h_61],NoBox.restrict (by intro k hk hb;simp at hk hb;simp [hk,hb,h_1,h_8,h_18,q_48,h_49,h_55,h_61,hn_47 k (by simp [hk,hb])])⟩
        ·try simp at h_61
         cases hp
         try simp [h_1,h_8,h_18,q_48,h_49,h_55,h_61]
         refine zaf ?_
         rw [I_44_]
         exact ⟨by simp [zac,zab,h_1,h_8,h_18,q_48,h_49,h_55,h_61],NoBox.restrict (by intro k hk hb;simp at hk hb;simp [hk,hb,h_1,h_8,h_18,q_48,h_49,h_55,h_61,hn_47 k (by simp [hk,hb])])⟩
      ·try simp at h_49
       cases hp
       try simp [h_1,h_8,h_18,q_48,h_49]
       refine zai ?_
       rw [X_45_]
       exact ⟨_,rfl,by simp [zac,zab,h_1,h_8,h_18,q_48,h_49],NoBox.restrict (by intro k hk hb;simp at hk hb;simp [hk,hb,h_1,h_8,h_18,q_48,h_49,hn_47 k (by simp [hk,hb])])⟩
     ·intro out hX
      rw [X_45_] at hX
      obtain ⟨σ_64,rfl,q_66,hn_65⟩:=hX
      obtain ⟨_,h_67,hp⟩:=zaa hp
      have b_68:=zbc h_67
      try simp at b_68
      try simp [h_1,h_8,h_18,q_66,b_68]
      obtain ⟨r_91,h_92,hp⟩:=zaa hp
      obtain ⟨I_71,I_71_⟩:=exV fun (s_69:Int × (List Int)) (σ:St)=>(σ.env 1=uP (1,1)∧σ.env 2=uP (1,2)∧σ.env 3=.one (.mp (encM p_9.1))∧σ.env 4=uL .shr p_9.2∧σ.env 7=uP (1,7)∧σ.env 9=.one (.s (.string e_19))∧σ.env 60=uL .shr p_9.2∧σ.env 61=uI (p_9.2.length:Int)∧σ.env 62=uI s_11.1∧σ.env 104=uL .shr p_9.2∧σ.env 105=uI (p_9.2.length:Int)∧σ.env 106=uI s_69.1∧σ.mem (1,1)=some [cL .shr s.nodes,cL .shr s.next]∧σ.mem (1,2)=some [.l .own 0 [],.l .own 0 []]∧σ.mem (1,7)=some [cL .own (s_11.2.1 ++ [(⟨y_37.vars,y_37.reach,y_37.shared,r_62⟩:TNode)]),cL .own s_69.2]∧σ.mem (1,10)=some [.dead,.dead,.dead,.dead])∧NoBox [(1,1),(1,2),(1,7),(1,10)] σ.mem
      obtain ⟨X_72,X_72_⟩:=exV fun (r_91:(List Int)) (out:Out)=>∃ σ:St,out=.exit 7 σ∧(σ.env 1=uP (1,1)∧σ.env 2=uP (1,2)∧σ.env 3=.one (.mp (encM p_9.1))∧σ.env 4=uL .shr p_9.2∧σ.env 7=uP (1,7)∧σ.env 60=uL .shr p_9.2∧σ.env 61=uI (p_9.2.length:Int)∧σ.env 62=uI s_11.1∧σ.mem (1,1)=some [cL .shr s.nodes,cL .shr s.next]∧σ.mem (1,2)=some [.l .own 0 [],.l .own 0 []]∧σ.mem (1,7)=some [cL .own (s_11.2.1 ++ [(⟨y_37.vars,y_37.reach,y_37.shared,r_62⟩:TNode)]),cL .own r_91]∧σ.mem (1,10)=some [.dead,.dead,.dead,.dead])∧NoBox [(1,1),(1,2),(1,7),(1,10)] σ.mem
      refine loopP ({ hd:=[1,2,3,4,7,9,60,61,62,104,105,106],bx:=[],ex:=[1,2,3,4,7,60,61,62],rt:=[2] }) I_71 X_72 h_92 (by exact rfl) ?_ ?_ ?_
      ·rw [I_71_]
       exact ⟨by simp [zac,zab,h_1,h_8,h_18,q_66],NoBox.restrict (by intro k hk hb;simp at hk hb;simp [hk,hb,h_1,h_8,h_18,q_66,hn_65 k (by simp [hk,hb])])⟩
      ·intro s_69 σ_73 a_70 hI hp
       rw [I_71_] at hI
       obtain ⟨q_75,hn_74⟩:=hI
       try simp [h_1,h_8,h_18,q_75]
       rcases zad hp with ⟨h_76,hp⟩|⟨h_76,hp⟩
       ·try simp at h_76
        obtain ⟨e_77,h_78,hp⟩:=zaa hp
        have b_79:=at_lo h_78
        have b_80:=at_hi h_78
        try simp at b_79 b_80
        have c_81:=seg_at' h_78 0 1 (by decide) (ds:=[.sc (.string e_77)]) rfl
        try simp at c_81
        obtain ⟨_,h_82,hp⟩:=zaa hp
        cases Option.some.inj (h_25.symm.trans h_82)
        obtain ⟨y_83,h_84,hp⟩:=zaa hp
        have c_85:=znn h_84
        obtain ⟨y_86,h_87,hp⟩:=zaa hp
        have c_88:=C53_eq h_87
        simp at c_88
        obtain ⟨_,h_89,hp⟩:=zaa hp
        have b_90:=zbc h_89
        try simp at b_90
        cases hp
        try simp [h_1,h_8,h_18,q_75,h_76,b_79,b_80,c_81,Tryz.underlying70,Tryz.underlying9,c_26,Tryz.underlying70,Tryz.underlying9,c_85,c_88,b_90]
        refine zaf ?_
        rw [I_71_]
        exact ⟨by simp [zac,zab,h_1,h_8,h_18,q_75,h_76,b_79,b_80,c_81,Tryz.underlying70,Tryz.underlying9,c_26,Tryz.underlying70,Tryz.underlying9,c_85,c_88,b_90],NoBox.restrict (by intro k hk hb;simp at hk hb;simp [hk,hb,h_1,h_8,h_18,q_75,h_76,b_79,b_80,c_81,Tryz.underlying70,Tryz.underlying9,c_26,Tryz.underlying70,Tryz.underlying9,c_85,c_88,b_90,hn_74 k (by simp [hk,hb])])⟩
       ·try simp at h_76
        cases hp
        try simp [h_1,h_8,h_18,q_75,h_76]
        refine zai ?_
        rw [X_72_]
        exact ⟨_,rfl,by simp [zac,zab,h_1,h_8,h_18,q_75,h_76],NoBox.restrict (by intro k hk hb;simp at hk hb;simp [hk,hb,h_1,h_8,h_18,q_75,h_76,hn_74 k (by simp [hk,hb])])⟩
      ·intro out hX
       rw [X_72_] at hX
       obtain ⟨σ_93,rfl,q_95,hn_94⟩:=hX
       cases hp
       try simp [h_1,h_8,h_18,q_95]
       refine zaf ?_
       rw [I_13_]
       exact ⟨by simp [zac,zab,h_1,h_8,h_18,q_95],NoBox.restrict (by intro k hk hb;simp at hk hb;simp [hk,hb,h_1,h_8,h_18,q_95,hn_94 k (by simp [hk,hb])])⟩
    ·try simp at h_18
     cases hp
     try simp [h_1,h_8,q_17,h_18]
     refine zai ?_
     rw [X_14_]
     exact ⟨_,rfl,by simp [zac,zab,h_1,h_8,q_17,h_18],NoBox.restrict (by intro k hk hb;simp at hk hb;simp [hk,hb,h_1,h_8,q_17,h_18,hn_16 k (by simp [hk,hb])])⟩
   ·intro out hX
    rw [X_14_] at hX
    obtain ⟨σ_98,rfl,q_100,hn_99⟩:=hX
    cases hp
    simp [Goal,FnEnd,retR,rsrc,RSrc.val,nodupR,nodup,tupPart,h_1,h_8,q_100]
  ·try simp at h_8
   obtain ⟨y_101,h_102,hp⟩:=zaa hp
   have c_103:=C49_eq h_102
   simp at c_103
   cases hp
   simp [Goal,FnEnd,retR,rsrc,RSrc.val,nodupR,nodup,tupPart,h_1,h_8,c_103]
theorem pc21:PC Tryz.prog 21 C21:=pc_of_pre (g:=g21) (zag _ g21_s.2.1 ⟨pc26,pc47,pc48,pc49,pc52,pc53,trivial⟩) (n1:=2) (n2:=3) (c:=(Tryz.f21.body.getD .skip)) Tryz.func21 (by kernel_rfl) (by kernel_rfl) (preOK12 pc26) (fun x=>by show _≤126;simp [Args.args]) fun x y h=>w21 h

def C54:List AV→Option AV:=specPS (X:=(List U8) × Unit) fun x=>zej x.1
theorem C54_eq {code} {y} (h:zej code=some y):C54 [av .shr code]=some ((Res.res y).toS):=zij (x:=(code,())) h
def g54:Cfg:={ P:=Tryz.prog,take:=[],keep:=[],gho:=[],ctx:=[],away:=[(54,15,4000000)],give:=[(54,9)],bctx:=[(35,C35)],pctx:=[(41,C41),(46,C46)] }
@[simp] theorem g54_s:type_of% (cfg_s (g:=g54) rfl):=cfg_s rfl
theorem g54_x41:PxOK g54 41 C41:=⟨rfl,rfl,Tryz.f41,Tryz.f41.body.getD .skip,Tryz.func41,by kernel_rfl⟩
theorem g54_x46:PxOK g54 46 C46:=⟨rfl,rfl,Tryz.f46,Tryz.f46.body.getD .skip,Tryz.func46,by kernel_rfl⟩
@[simp] theorem g54_wa (d f dst key):awayB g54 d f dst key=awayL [(54,15,4000000)] d f dst key:=rfl
@[simp] theorem g54_wl (d f a key):lateB g54 d f a key=lateL [(54,15,4000000)] d f a key:=rfl
theorem w54 {code} {y} (hp:zej code=some y):∃ m,callo g54 0 54 [av .shr code] mem0=some ((Res.res y).toS,m):=by
 refine st0 [.cell 2 32,.tmp 3,.tmp 4] Tryz.func54 ?_
 unfold zej at hp
 obtain ⟨y_1,h_2,hp⟩:=zaa hp
 simp [Tryz.f54]
 refine zqk (1,5000009) (C35_eq h_2) (by rfl) (by rfl) (by simp) (by simp) (by rfl) (by simp [mem0]) ?_
 obtain ⟨y_3,h_4,hp⟩:=zaa hp
 try simp
 refine zal (1,5000009) (C46_eq h_4) g54_x46 (by simp) (by simp) (by simp) (.inr (by decide)) ?_
 obtain ⟨y_5,h_6,hp⟩:=zaa hp
 try simp
 refine zal (1,5000009) (zfh h_6) g54_x41 (by simp) (by simp) (by simp) (.inr (by decide)) ?_
 obtain ⟨y_7,h_8,hp⟩:=zaa hp
 try simp
 refine zal (1,5000009) (zfh h_8) g54_x41 (by simp) (by simp) (by simp) (.inr (by decide)) ?_
 cases hp
 simp [Goal,FnEnd,retR,rsrc,RSrc.val,nodupR,nodup,tupPart]
theorem pc54:PC Tryz.prog 54 C54:=pc_ofS (g:=g54) (zfp [] rfl trivial [] rfl trivial [(35,C35)] rfl ⟨bc35,trivial⟩ [(41,C41),(46,C46)] rfl ⟨px41,px46,trivial⟩) (ent Tryz.func54) fun x y h=>w54 h

def C22:List AV→Option AV:=specPS (X:=(List U8) × Unit) fun x=>zco x.1
theorem C22_eq {code} {y} (h:zco code=some y):C22 [av .shr code]=some ((Res.res y).toS):=zij (x:=(code,())) h
def g22:Cfg:={ P:=Tryz.prog,take:=[(22,7)],keep:=[],gho:=[],ctx:=[(54,C54)] }
@[simp] theorem g22_s:type_of% (cfg_s (g:=g22) rfl):=cfg_s rfl
theorem w22 {code} {y} (hp:zco code=some y):∃ m,callo g22 0 22 [av .shr code] mem0=some ((Res.res y).toS,m):=by
 refine st0 [.cell 2 32,.tmp 3] Tryz.func22 ?_
 unfold zco at hp
 obtain ⟨y_1,h_2,hp⟩:=zaa hp
 have c_3:=C54_eq h_2
 simp at c_3
 cases hp
 simp [Tryz.f22,Goal,FnEnd,retR,rsrc,RSrc.val,nodupR,nodup,tupPart,c_3]
theorem pc22:PC Tryz.prog 22 C22:=pc_ofS (g:=g22) (zag _ g22_s.2.1 ⟨pc54,trivial⟩) (ent Tryz.func22) fun x y h=>w22 h

def C101:List C→List AV→Option (AV × List C):=specXS (T:=TL1Cur) (X:=Unit) (R:=(Int × THeap)) fun x t=>zfb t
theorem C101_eq {c} {y} (h:zfb c=some y):C101 (bxT c) []=some ((Res.res y.1).toS,bxT y.2):=specXS_eq (T:=TL1Cur) (X:=Unit) (R:=(Int × THeap)) (F:=fun x t=>zfb t ) (x:=(())) h
def g101:Cfg:={ P:=Tryz.prog,take:=[(101,20)],keep:=[],gho:=[((101,4),[.thaw (.at 4 0) 1064 1]),((101,9),[.thaw (.at 4 1) 1065 1]),((101,11),[.shareM (1,4)]),((101,12),[.shareM (1,4)]),((101,2000004),[.frz (.at 4 0)]),((101,2000009),[.frz (.at 4 1)])],ctx:=[],away:=[(101,12,4000000),(101,20,4000000),(101,34,4000000),(101,46,4000000)],pctx:=[(41,C41),(79,C79)] }
@[simp] theorem g101_s:type_of% (cfg_s (g:=g101) rfl):=cfg_s rfl
theorem zkt:PxOK g101 41 C41:=⟨rfl,rfl,Tryz.f41,Tryz.f41.body.getD .skip,Tryz.func41,by kernel_rfl⟩
theorem g101_x79:PxOK g101 79 C79:=⟨rfl,rfl,Tryz.f79,Tryz.f79.body.getD .skip,Tryz.func79,by kernel_rfl⟩
@[simp] theorem g101_wa (d f dst key):awayB g101 d f dst key=awayL [(101,12,4000000),(101,20,4000000),(101,34,4000000),(101,46,4000000)] d f dst key:=rfl
@[simp] theorem g101_wl (d f a key):lateB g101 d f a key=lateL [(101,12,4000000),(101,20,4000000),(101,34,4000000),(101,46,4000000)] d f a key:=rfl
theorem w101 {c} {mem:Mem} (hT:Tight 0 mem) (hq0:mem (0,0)=some [cL .shr c.b,cI c.i,cI c.h]) (hn0:NoBox [(0,0)] mem) {y} (hp:zfb c=some y):∃ m,callo g101 0 101 [.one (.ptr (0,0) 0)] mem=some ((Res.res y.1).toS,m)∧(m (0,0)=some [cL .shr y.2.b,cI y.2.i,cI y.2.h]∧Tight 0 m∧NoBox [(0,0)] m):=by
 refine stD [.tmp 2,.cell 3 36] Tryz.func101 fun QV QV_=>?_
 unfold zfb at hp
 have n_1:=hn0 (1,3) (by simp)
 obtain ⟨y_2,h_3,hp⟩:=zaa hp
 simp [Tryz.f101,hq0,n_1]
 refine zal (0,0) (C79_eq h_3) g101_x79 (by simp [hq0]) (by simp) (by simp [hq0]) (.inr (by decide)) ?_
 have n_4:=hn0 (1,4) (by simp)
 obtain ⟨y_5,h_6,hp⟩:=zaa hp
 try simp [hq0,n_4]
 refine zal (0,0) (zfh h_6) zkt (by simp [hq0]) (by simp) (by simp [hq0]) (.inr (by decide)) ?_
 try simp [hq0]
 rcases zad hp with ⟨h_7,hp⟩|⟨h_7,hp⟩
 ·try simp at h_7
  try simp [hq0,h_7]
  have n_8:=hn0 (1,1064) (by simp)
  obtain ⟨y_9,h_10,hp⟩:=zaa hp
  try simp [hq0,h_7,n_8]
  refine zal (0,0) (zfh h_10) zkt (by simp [hq0,h_7]) (by simp) (by simp [hq0,h_7]) (.inr (by decide)) ?_
  obtain ⟨e_11,h_12,hp⟩:=zaa hp
  have b_13:=at_lo h_12
  have b_14:=at_hi h_12
  try simp at b_13 b_14
  have c_15:=zei h_12 0 (subI y_9.1 2) [(cI (subI y_9.1 2))] (by simp) rfl
  try simp at c_15
  have l_16:=zfq h_12 0 (m:=1) (by decide)
  try simp at l_16
  cases hp
  simp [Goal,FnEndD,retR,rsrc,RSrc.val,nodupR,nodup,tupPart,hq0,h_7,b_13,b_14,c_15,l_16]
  rw [QV_]
  exact ⟨by simp [hq0,h_7,b_13,b_14,c_15,l_16],zbg _ _,zbi (L':=[(0,0),(1,3),(1,4)]) (by intro k hk;simp at hk;simp [hk,hq0,h_7,b_13,b_14,c_15,l_16,hn0 k (by simp [hk])] <;> (intro hx;simp [hx]) <;> (intro hy;simp [hy])) (by simp)⟩
 ·try simp at h_7
  try simp [hq0,h_7]
  rcases zad hp with ⟨h_17,hp⟩|⟨h_17,hp⟩
  ·try simp at h_17
   obtain ⟨y_18,h_19,hp⟩:=zaa hp
   try simp [hq0,h_7,h_17]
   refine zal (0,0) (zfh h_19) zkt (by simp [hq0,h_7,h_17]) (by simp) (by simp [hq0,h_7,h_17]) (.inr (by decide)) ?_
   obtain ⟨_,h_20,hp⟩:=zaa hp
   have b_21:=zbc h_20
   try simp at b_21
   cases hp
   simp [Goal,FnEndD,retR,rsrc,RSrc.val,nodupR,nodup,tupPart,hq0,h_7,h_17,b_21]
   rw [QV_]
   exact ⟨by simp [hq0,h_7,h_17,b_21],zbg _ _,zbi (L':=[(0,0),(1,3),(1,4)]) (by intro k hk;simp at hk;simp [hk,hq0,h_7,h_17,b_21,hn0 k (by simp [hk])] <;> (intro hx;simp [hx]) <;> (intro hy;simp [hy])) (by simp)⟩
  ·try simp at h_17
   try simp [hq0,h_7,h_17]
   rcases zad hp with ⟨h_22,hp⟩|⟨h_22,hp⟩
   ·try simp at h_22
    try simp [hq0,h_7,h_17,h_22]
    rcases zad hp with ⟨h_23,hp⟩|⟨h_23,hp⟩
    ·try simp at h_23
     try simp [hq0,h_7,h_17,h_22,h_23]
     have n_24:=hn0 (1,1065) (by simp)
     obtain ⟨y_25,h_26,hp⟩:=zaa hp
     try simp [hq0,h_7,h_17,h_22,h_23,n_24]
     refine zal (0,0) (zfh h_26) zkt (by simp [hq0,h_7,h_17,h_22,h_23]) (by simp) (by simp [hq0,h_7,h_17,h_22,h_23]) (.inr (by decide)) ?_
     obtain ⟨e_27,h_28,hp⟩:=zaa hp
     have b_29:=at_lo h_28
     have b_30:=at_hi h_28
     try simp at b_29 b_30
     have c_31:=zei h_28 0 y_25.1 [(cI y_25.1)] (by simp) rfl
     try simp at c_31
     have l_32:=zfq h_28 0 (m:=1) (by decide)
     try simp at l_32
     cases hp
     simp [Goal,FnEndD,retR,rsrc,RSrc.val,nodupR,nodup,tupPart,hq0,h_7,h_17,h_22,h_23,b_29,b_30,c_31,l_32]
     rw [QV_]
     exact ⟨by simp [hq0,h_7,h_17,h_22,h_23,b_29,b_30,c_31,l_32],zbg _ _,zbi (L':=[(0,0),(1,3),(1,4)]) (by intro k hk;simp at hk;simp [hk,hq0,h_7,h_17,h_22,h_23,b_29,b_30,c_31,l_32,hn0 k (by simp [hk])] <;> (intro hx;simp [hx]) <;> (intro hy;simp [hy])) (by simp)⟩
    ·try simp at h_23
     cases hp
     simp [Goal,FnEndD,retR,rsrc,RSrc.val,nodupR,nodup,tupPart,hq0,h_7,h_17,h_22,h_23]
     rw [QV_]
     exact ⟨by simp [hq0,h_7,h_17,h_22,h_23],zbg _ _,zbi (L':=[(0,0),(1,3),(1,4)]) (by intro k hk;simp at hk;simp [hk,hq0,h_7,h_17,h_22,h_23,hn0 k (by simp [hk])] <;> (intro hx;simp [hx]) <;> (intro hy;simp [hy])) (by simp)⟩
   ·try simp at h_22
    try simp [hq0,h_7,h_17,h_22]
    rcases zad hp with ⟨h_33,hp⟩|⟨h_33,hp⟩
    ·try simp at h_33
     obtain ⟨y_34,h_35,hp⟩:=zaa hp
     try simp [hq0,h_7,h_17,h_22,h_33]
     refine zal (0,0) (zfh h_35) zkt (by simp [hq0,h_7,h_17,h_22,h_33]) (by simp) (by simp [hq0,h_7,h_17,h_22,h_33]) (.inr (by decide)) ?_
     cases hp
     simp [Goal,FnEndD,retR,rsrc,RSrc.val,nodupR,nodup,tupPart,hq0,h_7,h_17,h_22,h_33]
     rw [QV_]
     exact ⟨by simp [hq0,h_7,h_17,h_22,h_33],zbg _ _,zbi (L':=[(0,0),(1,3),(1,4)]) (by intro k hk;simp at hk;simp [hk,hq0,h_7,h_17,h_22,h_33,hn0 k (by simp [hk])] <;> (intro hx;simp [hx]) <;> (intro hy;simp [hy])) (by simp)⟩
    ·try simp at h_33
     cases hp
     simp [Goal,FnEndD,retR,rsrc,RSrc.val,nodupR,nodup,tupPart,hq0,h_7,h_17,h_22,h_33]
     rw [QV_]
     exact ⟨by simp [hq0,h_7,h_17,h_22,h_33],zbg _ _,zbi (L':=[(0,0),(1,3),(1,4)]) (by intro k hk;simp at hk;simp [hk,hq0,h_7,h_17,h_22,h_33,hn0 k (by simp [hk])] <;> (intro hx;simp [hx]) <;> (intro hy;simp [hy])) (by simp)⟩
theorem px101:PX Tryz.prog 101 C101:=px_ofS (g:=g101) (zfp [] rfl trivial [] rfl trivial [] rfl trivial [(41,C41),(79,C79)] rfl ⟨px41,px79,trivial⟩) (ent Tryz.func101) fun x t y h=>by
 obtain ⟨m,h1,h2,_,h3⟩:=w101 (mem:=upd mem0 (0,0) (some (bxT t))) (Tight.upd (zap _) (by simp) (by simp)) (by simp [upd,bxT]) (zgi _ _) h
 exact ⟨m,h1,h2,h3⟩

def C55:List AV→Option AV:=specPS (X:=(List U8) × Unit) fun x=>zcz x.1
theorem C55_eq {code} {y} (h:zcz code=some y):C55 [av .shr code]=some ((Res.res y).toS):=zij (x:=(code,())) h
def g55:Cfg:={ P:=Tryz.prog,take:=[(55,5)],keep:=[],gho:=[],ctx:=[],give:=[(55,7)],bctx:=[(35,C35)],pctx:=[(101,C101)] }
@[simp] theorem g55_s:type_of% (cfg_s (g:=g55) rfl):=cfg_s rfl
theorem g55_x101:PxOK g55 101 C101:=⟨rfl,rfl,Tryz.f101,Tryz.f101.body.getD .skip,Tryz.func101,by kernel_rfl⟩
theorem w55 {code} {y} (hp:zcz code=some y):∃ m,callo g55 0 55 [av .shr code] mem0=some ((Res.res y).toS,m):=by
 refine st0 [.cell 2 36] Tryz.func55 ?_
 unfold zcz at hp
 obtain ⟨y_1,h_2,hp⟩:=zaa hp
 simp [Tryz.f55]
 refine zqk (1,5000007) (C35_eq h_2) (by rfl) (by rfl) (by simp) (by simp) (by rfl) (by simp [mem0]) ?_
 obtain ⟨y_3,h_4,hp⟩:=zaa hp
 try simp
 refine zal (1,5000007) (C101_eq h_4) g55_x101 (by simp) (by simp) (by simp) (.inr (by decide)) ?_
 cases hp
 simp [Goal,FnEnd,retR,rsrc,RSrc.val,nodupR,nodup,tupPart]
theorem pc55:PC Tryz.prog 55 C55:=pc_ofS (g:=g55) (zfp [] rfl trivial [] rfl trivial [(35,C35)] rfl ⟨bc35,trivial⟩ [(101,C101)] rfl ⟨px101,trivial⟩) (ent Tryz.func55) fun x y h=>w55 h

def C23:List AV→Option AV:=specPS (X:=(List U8) × Unit) fun x=>zbf x.1
theorem C23_eq {code} {y} (h:zbf code=some y):C23 [av .shr code]=some ((Res.res y).toS):=zij (x:=(code,())) h
def g23:Cfg:={ P:=Tryz.prog,take:=[],keep:=[],gho:=[],ctx:=[(55,C55)] }
@[simp] theorem g23_s:type_of% (cfg_s (g:=g23) rfl):=cfg_s rfl
theorem w23 {code} {y} (hp:zbf code=some y):∃ m,callo g23 0 23 [av .shr code] mem0=some ((Res.res y).toS,m):=by
 refine st0 [.cell 2 36] Tryz.func23 ?_
 unfold zbf at hp
 obtain ⟨y_1,h_2,hp⟩:=zaa hp
 have c_3:=C55_eq h_2
 simp at c_3
 cases hp
 simp [Tryz.f23,Goal,FnEnd,retR,rsrc,RSrc.val,nodupR,nodup,tupPart,c_3]
theorem pc23:PC Tryz.prog 23 C23:=pc_ofS (g:=g23) (zag _ g23_s.2.1 ⟨pc55,trivial⟩) (ent Tryz.func23) fun x y h=>w23 h

def C43:List AV→Option AV:=specP (X:=(List Int) × (List Int) × Unit) fun x=>zep x.1 x.2.1
theorem C43_eq {a_ b_} {y} (h:zep a_ b_=some y):C43 [av .shr a_,av .shr b_]=some (Res.res y):=zah (x:=(a_,b_,())) h
def g43:Cfg:={ P:=Tryz.prog,take:=[],keep:=[((43,4),{ hd:=[0,1,5],bx:=[],ex:=[],rt:=[4] })],gho:=[],ctx:=[] }
@[simp] theorem g43_s:type_of% (cfg_s (g:=g43) rfl):=cfg_s rfl
theorem w43 {a_ b_} {y} (hp:zep a_ b_=some y):∃ m,callo g43 0 43 [av .shr a_,av .shr b_] mem0=some (Res.res y,m):=by
 refine st0 [.tmp 4] Tryz.func43 ?_
 unfold zep at hp
 simp [Tryz.f43]
 rcases zad hp with ⟨h_1,hp⟩|⟨h_1,hp⟩
 ·try simp at h_1
  cases hp
  simp [Goal,FnEnd,h_1]
 ·try simp at h_1
  try simp [h_1]
  obtain ⟨r_21,h_22,hp⟩:=zaa hp
  obtain ⟨I_4,I_4_⟩:=exV fun (s_2:Int) (σ:St)=>(σ.env 0=uL .shr a_∧σ.env 1=uL .shr b_∧σ.env 5=uI s_2)∧σ.mem=mem0
  obtain ⟨X_5,X_5_⟩:=exV fun (r_21:(Unit) ⊕ (Unit)) (out:Out)=>Sum.elim (fun r_21=>∃ σ:St,out=.ret σ∧σ.env 4=uB false∧σ.mem=mem0) (fun r_21=>∃ σ:St,out=.exit 0 σ∧σ.mem=mem0) r_21
  refine loopP ({ hd:=[0,1,5],bx:=[],ex:=[],rt:=[4] }) I_4 X_5 h_22 (by exact rfl) ?_ ?_ ?_
  ·rw [I_4_]
   exact ⟨by simp [zac,zab,h_1],by simp [zab,h_1]⟩
  ·intro s_2 σ_6 a_3 hI hp
   rw [I_4_] at hI
   obtain ⟨q_8,q_7⟩:=hI
   try simp [h_1,q_8,q_7]
   rcases zad hp with ⟨h_9,hp⟩|⟨h_9,hp⟩
   ·try simp at h_9
    obtain ⟨e_10,h_11,hp⟩:=zaa hp
    have b_12:=at_lo h_11
    have b_13:=at_hi h_11
    try simp at b_12 b_13
    have c_14:=seg_at' h_11 0 1 (by decide) (ds:=[.sc (.int .i64 e_10)]) rfl
    try simp at c_14
    obtain ⟨e_15,h_16,hp⟩:=zaa hp
    have b_17:=at_lo h_16
    have b_18:=at_hi h_16
    try simp at b_17 b_18
    have c_19:=seg_at' h_16 0 1 (by decide) (ds:=[.sc (.int .i64 e_15)]) rfl
    try simp at c_19
    try simp [h_1,q_8,q_7,h_9,b_12,b_13,c_14,b_17,b_18,c_19]
    rcases zad hp with ⟨h_20,hp⟩|⟨h_20,hp⟩
    ·try simp at h_20
     cases hp
     try simp [h_1,q_8,q_7,h_9,h_20]
     refine zaq ?_
     rw [X_5_]
     exact ⟨_,rfl,by simp [zac,zab,h_1,q_8,q_7,h_9,h_20],by simp [zab,h_1,q_8,q_7,h_9,h_20]⟩
    ·try simp at h_20
     cases hp
     try simp [h_1,q_8,q_7,h_9,h_20]
     refine zaf ?_
     rw [I_4_]
     exact ⟨by simp [zac,zab,h_1,q_8,q_7,h_9,h_20],by simp [zab,h_1,q_8,q_7,h_9,h_20]⟩
   ·try simp at h_9
    cases hp
    try simp [h_1,q_8,q_7,h_9]
    refine zai ?_
    rw [X_5_]
    exact ⟨_,rfl,by simp [zab,h_1,q_8,q_7,h_9]⟩
  ·intro out hX
   rw [X_5_] at hX
   rcases r_21 with r_21 | r_21
   ·simp only [Sum.elim_inl,Sum.elim_inr] at hX hp
    obtain ⟨σ_23,rfl,q_25,q_24⟩:=hX
    cases hp
    simp [Goal,FnEnd,h_1,q_25,q_24]
   ·simp only [Sum.elim_inl,Sum.elim_inr] at hX hp
    obtain ⟨σ_26,rfl,q_27⟩:=hX
    cases hp
    simp [Goal,FnEnd,h_1,q_27]
theorem pc43:PC Tryz.prog 43 C43:=pc_of (g:=g43) (zag [] rfl trivial) (ent Tryz.func43) fun x y h=>w43 h

def C56:List AV→Option AV:=specP (X:=TNode × TNode × Unit) fun x=>zdc x.1 x.2.1
theorem C56_eq {a_ b_} {y} (h:zdc a_ b_=some y):C56 [av .shr a_,av .shr b_]=some (Res.res y):=zah (x:=(a_,b_,())) h
def g56:Cfg:={ P:=Tryz.prog,take:=[],keep:=[],gho:=[],ctx:=[(43,C43)] }
@[simp] theorem g56_s:type_of% (cfg_s (g:=g56) rfl):=cfg_s rfl
theorem w56 {a_ b_} {y} (hp:zdc a_ b_=some y):∃ m,callo g56 0 56 [av .shr a_,av .shr b_] mem0=some (Res.res y,m):=by
 refine st0 [.tmp 4] Tryz.func56 ?_
 unfold zdc at hp
 obtain ⟨y_1,h_2,hp⟩:=zaa hp
 have c_3:=C43_eq h_2
 simp at c_3
 simp [Tryz.f56,c_3]
 rcases zad hp with ⟨h_4,hp⟩|⟨h_4,hp⟩
 ·try simp at h_4
  obtain ⟨y_5,h_6,hp⟩:=zaa hp
  have c_7:=C43_eq h_6
  simp at c_7
  try simp [h_4,c_7]
  rcases zad hp with ⟨h_8,hp⟩|⟨h_8,hp⟩
  ·try simp at h_8
   try simp [h_4,h_8]
   rcases zad hp with ⟨h_9,hp⟩|⟨h_9,hp⟩
   ·try simp at h_9
    cases hp
    simp [Goal,FnEnd,h_4,h_8,h_9]
   ·try simp at h_9
    cases hp
    simp [Goal,FnEnd,h_4,h_8,h_9]
  ·try simp at h_8
   cases hp
   simp [Goal,FnEnd,h_4,h_8]
 ·try simp at h_4
  cases hp
  simp [Goal,FnEnd,h_4]
theorem pc56:PC Tryz.prog 56 C56:=pc_of (g:=g56) (zag _ g56_s.2.1 ⟨pc43,trivial⟩) (ent Tryz.func56) fun x y h=>w56 h

def C24:List AV→Option AV:=specP (X:=TStructure × TStructure × Unit) fun x=>zba x.1 x.2.1
theorem C24_eq {a_ b_} {y} (h:zba a_ b_=some y):C24 [av .shr a_,av .shr b_]=some (Res.res y):=zah (x:=(a_,b_,())) h
def g24:Cfg:={ P:=Tryz.prog,take:=[],keep:=[((24,4),{ hd:=[2,3,5],bx:=[],ex:=[],rt:=[4] })],gho:=[],ctx:=[(43,C43),(56,C56)] }
@[simp] theorem g24_s:type_of% (cfg_s (g:=g24) rfl):=cfg_s rfl
theorem w24 {a_ b_} {y} (hp:zba a_ b_=some y):∃ m,callo g24 0 24 [av .shr a_,av .shr b_] mem0=some (Res.res y,m):=by
 refine st0 [.tmp 4] Tryz.func24 ?_
 unfold zba at hp
 simp [Tryz.f24]
 rcases zad hp with ⟨h_1,hp⟩|⟨h_1,hp⟩
 ·try simp at h_1
  cases hp
  simp [Goal,FnEnd,h_1]
 ·try simp at h_1
  obtain ⟨y_2,h_3,hp⟩:=zaa hp
  have c_4:=C43_eq h_3
  simp at c_4
  try simp [h_1,c_4]
  rcases zad hp with ⟨h_5,hp⟩|⟨h_5,hp⟩
  ·try simp at h_5
   try simp [h_1,h_5]
   obtain ⟨r_28,h_29,hp⟩:=zaa hp
   obtain ⟨I_8,I_8_⟩:=exV fun (s_6:Int) (σ:St)=>(σ.env 2=uP (1,2)∧σ.env 3=uP (1,3)∧σ.env 5=uI s_6∧σ.mem (1,2)=some [cL .shr a_.nodes,cL .shr a_.next]∧σ.mem (1,3)=some [cL .shr b_.nodes,cL .shr b_.next])∧NoBox [(1,2),(1,3)] σ.mem
   obtain ⟨X_9,X_9_⟩:=exV fun (r_28:(Unit) ⊕ (Unit)) (out:Out)=>Sum.elim (fun r_28=>∃ σ:St,out=.ret σ∧(σ.env 4=uB false∧σ.mem (1,2)=some [cL .shr a_.nodes,cL .shr a_.next]∧σ.mem (1,3)=some [cL .shr b_.nodes,cL .shr b_.next])∧NoBox [(1,2),(1,3)] σ.mem) (fun r_28=>∃ σ:St,out=.exit 0 σ∧(σ.mem (1,2)=some [cL .shr a_.nodes,cL .shr a_.next]∧σ.mem (1,3)=some [cL .shr b_.nodes,cL .shr b_.next])∧NoBox [(1,2),(1,3)] σ.mem) r_28
   refine loopP ({ hd:=[2,3,5],bx:=[],ex:=[],rt:=[4] }) I_8 X_9 h_29 (by exact rfl) ?_ ?_ ?_
   ·rw [I_8_]
    exact ⟨by simp [zac,zab,h_1,h_5],NoBox.restrict (by intro k hk hb;simp at hk hb;simp [hk,hb,h_1,h_5])⟩
   ·intro s_6 σ_10 a_7 hI hp
    rw [I_8_] at hI
    obtain ⟨q_12,hn_11⟩:=hI
    try simp [h_1,h_5,q_12]
    rcases zad hp with ⟨h_13,hp⟩|⟨h_13,hp⟩
    ·try simp at h_13
     obtain ⟨e_14,h_15,hp⟩:=zaa hp
     have b_16:=at_lo h_15
     have b_17:=at_hi h_15
     try simp at b_16 b_17
     have c_18:=seg_at' h_15 0 4 (by decide) (ds:=[.sl e_14.vars.length (encL e_14.vars),.sl e_14.reach.length (encL e_14.reach),.sc (.int .i64 e_14.shared),.sc (.int .i64 e_14.many)]) rfl
     try simp at c_18
     obtain ⟨e_19,h_20,hp⟩:=zaa hp
     have b_21:=at_lo h_20
     have b_22:=at_hi h_20
     try simp at b_21 b_22
     have c_23:=seg_at' h_20 0 4 (by decide) (ds:=[.sl e_19.vars.length (encL e_19.vars),.sl e_19.reach.length (encL e_19.reach),.sc (.int .i64 e_19.shared),.sc (.int .i64 e_19.many)]) rfl
     try simp at c_23
     obtain ⟨y_24,h_25,hp⟩:=zaa hp
     have c_26:=C56_eq h_25
     simp at c_26
     try simp [h_1,h_5,q_12,h_13,b_16,b_17,c_18,b_21,b_22,c_23,c_26]
     rcases zad hp with ⟨h_27,hp⟩|⟨h_27,hp⟩
     ·try simp at h_27
      cases hp
      try simp [h_1,h_5,q_12,h_13,h_27]
      refine zaf ?_
      rw [I_8_]
      exact ⟨by simp [zac,zab,h_1,h_5,q_12,h_13,h_27],NoBox.restrict (by intro k hk hb;simp at hk hb;simp [hk,hb,h_1,h_5,q_12,h_13,h_27,hn_11 k (by simp [hk,hb])])⟩
     ·try simp at h_27
      cases hp
      try simp [h_1,h_5,q_12,h_13,h_27]
      refine zaq ?_
      rw [X_9_]
      exact ⟨_,rfl,by simp [zac,zab,h_1,h_5,q_12,h_13,h_27],NoBox.restrict (by intro k hk hb;simp at hk hb;simp [hk,hb,h_1,h_5,q_12,h_13,h_27,hn_11 k (by simp [hk,hb])])⟩
    ·try simp at h_13
     cases hp
     try simp [h_1,h_5,q_12,h_13]
     refine zai ?_
     rw [X_9_]
     exact ⟨_,rfl,by simp [zac,zab,h_1,h_5,q_12,h_13],NoBox.restrict (by intro k hk hb;simp at hk hb;simp [hk,hb,h_1,h_5,q_12,h_13,hn_11 k (by simp [hk,hb])])⟩
   ·intro out hX
    rw [X_9_] at hX
    rcases r_28 with r_28 | r_28
    ·simp only [Sum.elim_inl,Sum.elim_inr] at hX hp
     obtain ⟨σ_30,rfl,q_32,hn_31⟩:=hX
     cases hp
     simp [Goal,FnEnd,h_1,h_5,q_32]
    ·simp only [Sum.elim_inl,Sum.elim_inr] at hX hp
     obtain ⟨σ_33,rfl,q_35,hn_34⟩:=hX
     cases hp
     simp [Goal,FnEnd,h_1,h_5,q_35]
  ·try simp at h_5
   cases hp
   simp [Goal,FnEnd,h_1,h_5]
theorem pc24:PC Tryz.prog 24 C24:=pc_of (g:=g24) (zag _ g24_s.2.1 ⟨pc43,pc56,trivial⟩) (ent Tryz.func24) fun x y h=>w24 h

def C140:List AV→Option AV:=specP (X:=THeap × Int × Unit) fun x=>zbd x.1 x.2.1
theorem C140_eq {h_ n_} {y} (h:zbd h_ n_=some y):C140 [av .shr h_,av .shr n_]=some (Res.res y):=zah (x:=(h_,n_,())) h
def g140:Cfg:={ P:=Tryz.prog,take:=[],keep:=[],gho:=[],ctx:=[(90,C90)] }
@[simp] theorem g140_s:type_of% (cfg_s (g:=g140) rfl):=cfg_s rfl
theorem w140 {h_ n_} {y} (hp:zbd h_ n_=some y):∃ m,callo g140 0 140 [av .shr h_,av .shr n_] mem0=some (Res.res y,m):=by
 refine st0 [.tmp 4] Tryz.func140 ?_
 unfold zbd at hp
 obtain ⟨y_1,h_2,hp⟩:=zaa hp
 have c_3:=zjm h_2
 simp at c_3
 cases hp
 simp [Tryz.f140,Goal,FnEnd,c_3]
theorem pc140:PC Tryz.prog 140 C140:=pc_of (g:=g140) (zag _ g140_s.2.1 ⟨pc90,trivial⟩) (ent Tryz.func140) fun x y h=>w140 h

abbrev G139 (g:Cfg):Prop:=Has Tryz.prog g 139 Tryz.f139 [] [] [(140,C140)] []
theorem wI139 {g:Cfg} (G:G139 g) {d:Nat} {mem:Mem} (hT:Tight d mem) {K_1:Key} {n_:Int} {c0:THeap} {mk_1:Md} (hk_1:K_1.1≤d) (hb_1:mem K_1=some [cL mk_1 c0.vars,cL mk_1 c0.next]) {y} (hp:zbn n_ c0=some y):callo g d 139 [av .shr n_,.one (.ptr K_1 0)] mem=some (Res.res y,mem):=by
 have gP:=G.P;have gt:=G.tk;have gr:=G.ro;have gg:=G.gh
 have c_140:=G.cs (140,C140) (by simp)
 have hT2:memKill (fun k=>decide (d < k.1)) mem=mem:=hT
 have nk_1:∀ t,(K_1=(d+1,t))=False:=fun t=>by simp;intro h;rw [h] at hk_1;simp at hk_1;omega
 refine zhq (Tryz.f139.body.getD .skip) [.tmp 3] G Tryz.func139 (by kernel_rfl) (by simp [Tryz.ntmps139]) rfl ?_
 unfold zbn at hp
 simp [Tryz.f139,gP,gt,gr,gg,hb_1,nk_1]
 rcases zad hp with ⟨h_1,hp⟩|⟨h_1,hp⟩
 ·try simp at h_1
  obtain ⟨y_2,h_3,hp⟩:=zaa hp
  have c_4:=C140_eq h_3
  simp at c_4
  cases hp
  simp [Goal,FnEndI,zbe,gP,gt,gr,gg,c_140,hb_1,nk_1,h_1,c_4,hT2]
 ·try simp at h_1
  cases hp
  simp [Goal,FnEndI,zbe,gP,gt,gr,gg,c_140,hb_1,nk_1,h_1,hT2]

def C106:List AV→Option AV:=specP (X:=THeap × Unit) fun x=>zch x.1
theorem C106_eq {h_} {y} (h:zch h_=some y):C106 [av .shr h_]=some (Res.res y):=zah (x:=(h_,())) h
def g106:Cfg:={ P:=Tryz.prog,take:=[],keep:=[((150,2),{ hd:=[0,1,7,8],bx:=[],ex:=[],rt:=[4] })],gho:=[],ctx:=[(138,C138),(140,C140)] }
@[simp] theorem g106_s:type_of% (cfg_s (g:=g106) rfl):=cfg_s rfl
theorem w106 {h_} {y} (hp:zch h_=some y):∃ m,callo g106 0 106 [av .shr h_] mem0=some (Res.res y,m):=by
 have G_124:G124 g106:=⟨rfl,by kernel_rfl,rfl,fun t=>by simp,noAway (fun t=>by simp) (by simp) (fun t=>by simp),by simp [lookN],fun i=>by simp [lookK],by simp [g106,lookK],by simp⟩
 have G_150:G150 g106:=⟨rfl,by kernel_rfl,rfl,fun t=>by simp,noAway (fun t=>by simp) (by simp) (fun t=>by simp),by simp [lookN],fun i=>by simp [lookK],by simp [g106,lookK],by simp⟩
 have G_139:G139 g106:=⟨rfl,by kernel_rfl,rfl,fun t=>by simp,noAway (fun t=>by simp) (by simp) (fun t=>by simp),by simp [lookN],fun i=>by simp [lookK],by simp [g106,lookK],by simp⟩
 refine st0 [.tmp 2] Tryz.func106 ?_
 unfold zch at hp
 obtain ⟨y_1,h_2,hp⟩:=zaa hp
 have c_3:=C138_eq h_2
 simp at c_3
 obtain ⟨y_4,h_5,hp⟩:=zaa hp
 simp [Tryz.f106,c_3]
 refine zga [av .bor y_1,.one (.fn 139 [((1,1),0)])] (Res.res y_4) (by simp) (wI124 G_124 G_150 (by repeat (first | exact zap _ | exact hT.up | exact hT | (simp only [true_and];done) | refine Tight.upd ?_ (by simp) (by simp) | refine Tight.killB ?_ | refine zbv ?_)) (.inr rfl) (by simp) (clo1 (p:=fun x0=>zbn x0 h_) fun d2 mem2 m0 x0 r2 hd2 ha2 hT2 hm0 hr2=>wI139 (mk_1:=.shr) G_139 hT2 (show 1≤d2 from hd2) ((ha2 _ (Nat.le_refl _)).trans (by simp [c_3])) hr2) h_5) ?_
 cases hp
 simp [Goal,FnEnd]
theorem pc106:PC Tryz.prog 106 C106:=pc_of (g:=g106) (zag _ g106_s.2.1 ⟨pc138,pc140,trivial⟩) (ent Tryz.func106) fun x y h=>w106 h

def C108:List AV→Option AV:=specP (X:=(List Int) × Int × Unit) fun x=>zey x.1 x.2.1
theorem C108_eq {list n_} {y} (h:zey list n_=some y):C108 [av .shr list,av .shr n_]=some (Res.res y):=zah (x:=(list,n_,())) h
def g108:Cfg:={ P:=Tryz.prog,take:=[(108,19),(108,24)],keep:=[((108,3),{ hd:=[1,5,9,10,11],bx:=[],ex:=[5],rt:=[4] })],gho:=[],ctx:=[] }
@[simp] theorem g108_s:type_of% (cfg_s (g:=g108) rfl):=cfg_s rfl
theorem w108 {list n_} {y} (hp:zey list n_=some y):∃ m,callo g108 0 108 [av .shr list,av .shr n_] mem0=some (Res.res y,m):=by
 refine st0 [.tmp 4] Tryz.func108 ?_
 unfold zey at hp
 simp [Tryz.f108]
 obtain ⟨r_17,h_18,hp⟩:=zaa hp
 obtain ⟨I_3,I_3_⟩:=exV fun (s_1:(List Int) × Int) (σ:St)=>(σ.env 1=uI n_∧σ.env 5=uL .own s_1.1∧σ.env 9=uL .shr list∧σ.env 10=uI (list.length:Int)∧σ.env 11=uI s_1.2)∧σ.mem=mem0
 obtain ⟨X_4,X_4_⟩:=exV fun (r_17:(List Int)) (out:Out)=>∃ σ:St,out=.exit 0 σ∧σ.env 5=uL .own r_17∧σ.mem=mem0
 refine loopP ({ hd:=[1,5,9,10,11],bx:=[],ex:=[5],rt:=[4] }) I_3 X_4 h_18 (by exact rfl) ?_ ?_ ?_
 ·rw [I_3_]
  exact ⟨by simp [zac,zab],by simp [zab]⟩
 ·intro s_1 σ_5 a_2 hI hp
  rw [I_3_] at hI
  obtain ⟨q_7,q_6⟩:=hI
  try simp [q_7,q_6]
  rcases zad hp with ⟨h_8,hp⟩|⟨h_8,hp⟩
  ·try simp at h_8
   obtain ⟨e_9,h_10,hp⟩:=zaa hp
   have b_11:=at_lo h_10
   have b_12:=at_hi h_10
   try simp at b_11 b_12
   have c_13:=seg_at' h_10 0 1 (by decide) (ds:=[.sc (.int .i64 e_9)]) rfl
   try simp at c_13
   try simp [q_7,q_6,h_8,b_11,b_12,c_13]
   rcases zad hp with ⟨h_14,hp⟩|⟨h_14,hp⟩
   ·try simp at h_14
    obtain ⟨_,h_15,hp⟩:=zaa hp
    have b_16:=zbc h_15
    try simp at b_16
    cases hp
    try simp [q_7,q_6,h_8,h_14,b_16]
    refine zaf ?_
    rw [I_3_]
    exact ⟨by simp [zac,zab,q_7,q_6,h_8,h_14,b_16],by simp [zab,q_7,q_6,h_8,h_14,b_16]⟩
   ·try simp at h_14
    cases hp
    try simp [q_7,q_6,h_8,h_14]
    refine zaf ?_
    rw [I_3_]
    exact ⟨by simp [zac,zab,q_7,q_6,h_8,h_14],by simp [zab,q_7,q_6,h_8,h_14]⟩
  ·try simp at h_8
   cases hp
   try simp [q_7,q_6,h_8]
   refine zai ?_
   rw [X_4_]
   exact ⟨_,rfl,by simp [zac,zab,q_7,q_6,h_8],by simp [zab,q_7,q_6,h_8]⟩
 ·intro out hX
  rw [X_4_] at hX
  obtain ⟨σ_19,rfl,q_21,q_20⟩:=hX
  cases hp
  simp [Goal,FnEnd,q_21,q_20]
theorem pc108:PC Tryz.prog 108 C108:=pc_of (g:=g108) (zag [] rfl trivial) (ent Tryz.func108) fun x y h=>w108 h

def C107:List AV→Option AV:=specP (X:=Bool × Unit) fun x=>zdw x.1
theorem zqz {b_} {y} (h:zdw b_=some y):C107 [av .shr b_]=some (Res.res y):=zah (x:=(b_,())) h
def g107:Cfg:={ P:=Tryz.prog,take:=[],keep:=[],gho:=[],ctx:=[] }
@[simp] theorem g107_s:type_of% (cfg_s (g:=g107) rfl):=cfg_s rfl
theorem w107 {b_} {y} (hp:zdw b_=some y):∃ m,callo g107 0 107 [av .shr b_] mem0=some (Res.res y,m):=by
 refine st0 [.tmp 2] Tryz.func107 ?_
 unfold zdw at hp
 simp [Tryz.f107]
 rcases zad hp with ⟨h_1,hp⟩|⟨h_1,hp⟩
 ·try simp at h_1
  cases hp
  simp [Goal,FnEnd,h_1]
 ·try simp at h_1
  cases hp
  simp [Goal,FnEnd,h_1]
theorem pc107:PC Tryz.prog 107 C107:=pc_of (g:=g107) (zag [] rfl trivial) (ent Tryz.func107) fun x y h=>w107 h

def C141:List AV→Option AV:=specP (X:=(List Int) × Int × Unit) fun x=>zde x.1 x.2.1
theorem C141_eq {s v} {y} (h:zde s v=some y):C141 [av .shr s,av .shr v]=some (Res.res y):=zah (x:=(s,v,())) h
def g141:Cfg:={ P:=Tryz.prog,take:=[],keep:=[((141,2),{ hd:=[0,1,7,8],bx:=[],ex:=[],rt:=[4] })],gho:=[],ctx:=[] }
@[simp] theorem g141_s:type_of% (cfg_s (g:=g141) rfl):=cfg_s rfl
theorem w141 {s v} {y} (hp:zde s v=some y):∃ m,callo g141 0 141 [av .shr s,av .shr v] mem0=some (Res.res y,m):=by
 refine st0 [.tmp 4] Tryz.func141 ?_
 unfold zde at hp
 simp [Tryz.f141]
 obtain ⟨r_15,h_16,hp⟩:=zaa hp
 obtain ⟨I_3,I_3_⟩:=exV fun (s_1:Int) (σ:St)=>(σ.env 0=uL .shr s∧σ.env 1=uI v∧σ.env 7=uI (s.length:Int)∧σ.env 8=uI s_1)∧σ.mem=mem0
 obtain ⟨X_4,X_4_⟩:=exV fun (r_15:(Int) ⊕ (Unit)) (out:Out)=>Sum.elim (fun r_15=>∃ σ:St,out=.ret σ∧σ.env 4=uI r_15∧σ.mem=mem0) (fun r_15=>∃ σ:St,out=.exit 0 σ∧σ.mem=mem0) r_15
 refine loopP ({ hd:=[0,1,7,8],bx:=[],ex:=[],rt:=[4] }) I_3 X_4 h_16 (by exact rfl) ?_ ?_ ?_
 ·rw [I_3_]
  exact ⟨by simp [zac,zab],by simp [zab]⟩
 ·intro s_1 σ_5 a_2 hI hp
  rw [I_3_] at hI
  obtain ⟨q_7,q_6⟩:=hI
  try simp [q_7,q_6]
  rcases zad hp with ⟨h_8,hp⟩|⟨h_8,hp⟩
  ·try simp at h_8
   obtain ⟨e_9,h_10,hp⟩:=zaa hp
   have b_11:=at_lo h_10
   have b_12:=at_hi h_10
   try simp at b_11 b_12
   have c_13:=seg_at' h_10 0 1 (by decide) (ds:=[.sc (.int .i64 e_9)]) rfl
   try simp at c_13
   try simp [q_7,q_6,h_8,b_11,b_12,c_13]
   rcases zad hp with ⟨h_14,hp⟩|⟨h_14,hp⟩
   ·try simp at h_14
    cases hp
    try simp [q_7,q_6,h_8,h_14]
    refine zaq ?_
    rw [X_4_]
    exact ⟨_,rfl,by simp [zac,zab,q_7,q_6,h_8,h_14],by simp [zab,q_7,q_6,h_8,h_14]⟩
   ·try simp at h_14
    cases hp
    try simp [q_7,q_6,h_8,h_14]
    refine zaf ?_
    rw [I_3_]
    exact ⟨by simp [zac,zab,q_7,q_6,h_8,h_14],by simp [zab,q_7,q_6,h_8,h_14]⟩
  ·try simp at h_8
   cases hp
   try simp [q_7,q_6,h_8]
   refine zai ?_
   rw [X_4_]
   exact ⟨_,rfl,by simp [zab,q_7,q_6,h_8]⟩
 ·intro out hX
  rw [X_4_] at hX
  rcases r_15 with r_15 | r_15
  ·simp only [Sum.elim_inl,Sum.elim_inr] at hX hp
   obtain ⟨σ_17,rfl,q_19,q_18⟩:=hX
   cases hp
   simp [Goal,FnEnd,q_19,q_18]
  ·simp only [Sum.elim_inl,Sum.elim_inr] at hX hp
   obtain ⟨σ_20,rfl,q_21⟩:=hX
   cases hp
   simp [Goal,FnEnd,q_21]
theorem pc141:PC Tryz.prog 141 C141:=pc_of (g:=g141) (zag [] rfl trivial) (ent Tryz.func141) fun x y h=>w141 h

def C109:List AV→Option AV:=specP (X:=(List Int) × Int × Unit) fun x=>zar x.1 x.2.1
theorem C109_eq {s v} {y} (h:zar s v=some y):C109 [av .shr s,av .shr v]=some (Res.res y):=zah (x:=(s,v,())) h
def g109:Cfg:={ P:=Tryz.prog,take:=[],keep:=[],gho:=[],ctx:=[(141,C141)] }
@[simp] theorem g109_s:type_of% (cfg_s (g:=g109) rfl):=cfg_s rfl
theorem w109 {s v} {y} (hp:zar s v=some y):∃ m,callo g109 0 109 [av .shr s,av .shr v] mem0=some (Res.res y,m):=by
 refine st0 [.tmp 4] Tryz.func109 ?_
 unfold zar at hp
 obtain ⟨y_1,h_2,hp⟩:=zaa hp
 have c_3:=C141_eq h_2
 simp at c_3
 cases hp
 simp [Tryz.f109,Goal,FnEnd,c_3]
theorem pc109:PC Tryz.prog 109 C109:=pc_of (g:=g109) (zag _ g109_s.2.1 ⟨pc141,trivial⟩) (ent Tryz.func109) fun x y h=>w109 h

def C110:List AV→Option AV:=specP (X:=THeap × Int × Unit) fun x=>zes x.1 x.2.1
theorem C110_eq {h_ cell} {y} (h:zes h_ cell=some y):C110 [av .shr h_,av .shr cell]=some (Res.res y):=zah (x:=(h_,cell,())) h
def g110:Cfg:={ P:=Tryz.prog,take:=[(110,27),(110,31)],keep:=[((110,3),{ hd:=[1,2,5,6],bx:=[],ex:=[5],rt:=[4] })],gho:=[],ctx:=[(109,C109),(140,C140)] }
@[simp] theorem g110_s:type_of% (cfg_s (g:=g110) rfl):=cfg_s rfl
theorem w110 {h_ cell} {y} (hp:zes h_ cell=some y):∃ m,callo g110 0 110 [av .shr h_,av .shr cell] mem0=some (Res.res y,m):=by
 refine st0 [.tmp 4] Tryz.func110 ?_
 unfold zes at hp
 simp [Tryz.f110]
 obtain ⟨r_40,h_41,hp⟩:=zaa hp
 obtain ⟨I_3,I_3_⟩:=exV fun (s_1:(List Int) × Int) (σ:St)=>(σ.env 1=uI cell∧σ.env 2=uP (1,2)∧σ.env 5=uL .own s_1.1∧σ.env 6=uI s_1.2∧σ.mem (1,2)=some [cL .shr h_.vars,cL .shr h_.next])∧NoBox [(1,2)] σ.mem
 obtain ⟨X_4,X_4_⟩:=exV fun (r_40:((List Int)) ⊕ (Unit)) (out:Out)=>Sum.elim (fun r_40=>∃ σ:St,out=.exit 0 σ∧(σ.env 5=uL .own r_40∧σ.mem (1,2)=some [cL .shr h_.vars,cL .shr h_.next])∧NoBox [(1,2)] σ.mem) (fun r_40=>∃ σ:St,out=.ret σ∧(σ.env 4=.one (.l .own 0 [])∧σ.mem (1,2)=some [cL .shr h_.vars,cL .shr h_.next])∧NoBox [(1,2)] σ.mem) r_40
 refine loopP ({ hd:=[1,2,5,6],bx:=[],ex:=[5],rt:=[4] }) I_3 X_4 h_41 (by exact rfl) ?_ ?_ ?_
 ·rw [I_3_]
  exact ⟨by simp [zac,zab],NoBox.restrict (by intro k hk hb;simp at hk hb;simp [hk,hb])⟩
 ·intro s_1 σ_5 a_2 hI hp
  rw [I_3_] at hI
  obtain ⟨q_7,hn_6⟩:=hI
  try simp [q_7]
  rcases zad hp with ⟨h_8,hp⟩|⟨h_8,hp⟩
  ·try simp at h_8
   obtain ⟨y_9,h_10,hp⟩:=zaa hp
   have c_11:=C140_eq h_10
   simp at c_11
   try simp [q_7,h_8,c_11]
   rcases zad hp with ⟨h_12,hp⟩|⟨h_12,hp⟩
   ·try simp at h_12
    obtain ⟨y_13,h_14,hp⟩:=zaa hp
    have c_15:=C109_eq h_14
    simp at c_15
    try simp [q_7,h_8,h_12,c_15]
    rcases zad hp with ⟨h_16,hp⟩|⟨h_16,hp⟩
    ·try simp at h_16
     cases hp
     try simp [q_7,h_8,h_12,h_16]
     refine zai ?_
     rw [X_4_]
     exact ⟨_,rfl,by simp [zac,zab,q_7,h_8,h_12,h_16],NoBox.restrict (by intro k hk hb;simp at hk hb;simp [hk,hb,q_7,h_8,h_12,h_16,hn_6 k (by simp [hk,hb])])⟩
    ·try simp at h_16
     obtain ⟨_,h_17,hp⟩:=zaa hp
     have b_18:=zbc h_17
     try simp at b_18
     obtain ⟨e_19,h_20,hp⟩:=zaa hp
     have b_21:=at_lo h_20
     have b_22:=at_hi h_20
     try simp at b_21 b_22
     have c_23:=seg_at' h_20 0 1 (by decide) (ds:=[.sc (.int .i64 e_19)]) rfl
     try simp at c_23
     cases hp
     try simp [q_7,h_8,h_12,h_16,b_18,b_21,b_22,c_23]
     refine zaf ?_
     rw [I_3_]
     exact ⟨by simp [zac,zab,q_7,h_8,h_12,h_16,b_18,b_21,b_22,c_23],NoBox.restrict (by intro k hk hb;simp at hk hb;simp [hk,hb,q_7,h_8,h_12,h_16,b_18,b_21,b_22,c_23,hn_6 k (by simp [hk,hb])])⟩
   ·try simp at h_12
    cases hp
    try simp [q_7,h_8,h_12]
    refine zaq ?_
    rw [X_4_]
    exact ⟨_,rfl,by simp [zac,zab,q_7,h_8,h_12],NoBox.restrict (by intro k hk hb;simp at hk hb;simp [hk,hb,q_7,h_8,h_12,hn_6 k (by simp [hk,hb])])⟩
  ·try simp at h_8
   try simp [q_7,h_8]
   rcases zad hp with ⟨h_24,hp⟩|⟨h_24,hp⟩
   ·try simp at h_24
    obtain ⟨y_25,h_26,hp⟩:=zaa hp
    have c_27:=C140_eq h_26
    simp at c_27
    try simp [q_7,h_8,h_24,c_27]
    rcases zad hp with ⟨h_28,hp⟩|⟨h_28,hp⟩
    ·try simp at h_28
     obtain ⟨y_29,h_30,hp⟩:=zaa hp
     have c_31:=C109_eq h_30
     simp at c_31
     try simp [q_7,h_8,h_24,h_28,c_31]
     rcases zad hp with ⟨h_32,hp⟩|⟨h_32,hp⟩
     ·try simp at h_32
      cases hp
      try simp [q_7,h_8,h_24,h_28,h_32]
      refine zai ?_
      rw [X_4_]
      exact ⟨_,rfl,by simp [zac,zab,q_7,h_8,h_24,h_28,h_32],NoBox.restrict (by intro k hk hb;simp at hk hb;simp [hk,hb,q_7,h_8,h_24,h_28,h_32,hn_6 k (by simp [hk,hb])])⟩
     ·try simp at h_32
      obtain ⟨_,h_33,hp⟩:=zaa hp
      have b_34:=zbc h_33
      try simp at b_34
      obtain ⟨e_35,h_36,hp⟩:=zaa hp
      have b_37:=at_lo h_36
      have b_38:=at_hi h_36
      try simp at b_37 b_38
      have c_39:=seg_at' h_36 0 1 (by decide) (ds:=[.sc (.int .i64 e_35)]) rfl
      try simp at c_39
      cases hp
      try simp [q_7,h_8,h_24,h_28,h_32,b_34,b_37,b_38,c_39]
      refine zaf ?_
      rw [I_3_]
      exact ⟨by simp [zac,zab,q_7,h_8,h_24,h_28,h_32,b_34,b_37,b_38,c_39],NoBox.restrict (by intro k hk hb;simp at hk hb;simp [hk,hb,q_7,h_8,h_24,h_28,h_32,b_34,b_37,b_38,c_39,hn_6 k (by simp [hk,hb])])⟩
    ·try simp at h_28
     cases hp
     try simp [q_7,h_8,h_24,h_28]
     refine zaq ?_
     rw [X_4_]
     exact ⟨_,rfl,by simp [zac,zab,q_7,h_8,h_24,h_28],NoBox.restrict (by intro k hk hb;simp at hk hb;simp [hk,hb,q_7,h_8,h_24,h_28,hn_6 k (by simp [hk,hb])])⟩
   ·try simp at h_24
    cases hp
    try simp [q_7,h_8,h_24]
    refine zai ?_
    rw [X_4_]
    exact ⟨_,rfl,by simp [zac,zab,q_7,h_8,h_24],NoBox.restrict (by intro k hk hb;simp at hk hb;simp [hk,hb,q_7,h_8,h_24,hn_6 k (by simp [hk,hb])])⟩
 ·intro out hX
  rw [X_4_] at hX
  rcases r_40 with r_40 | r_40
  ·simp only [Sum.elim_inl,Sum.elim_inr] at hX hp
   obtain ⟨σ_42,rfl,q_44,hn_43⟩:=hX
   cases hp
   simp [Goal,FnEnd,q_44]
  ·simp only [Sum.elim_inl,Sum.elim_inr] at hX hp
   obtain ⟨σ_45,rfl,q_47,hn_46⟩:=hX
   cases hp
   simp [Goal,FnEnd,q_47]
theorem pc110:PC Tryz.prog 110 C110:=pc_of (g:=g110) (zag _ g110_s.2.1 ⟨pc109,pc140,trivial⟩) (ent Tryz.func110) fun x y h=>w110 h

def C70:List AV→Option AV:=specP (X:=THeap × Unit) fun x=>zdf x.1
theorem C70_eq {h_} {y} (h:zdf h_=some y):C70 [av .shr h_]=some (Res.res y):=zah (x:=(h_,())) h
def g70:Cfg:={ P:=Tryz.prog,take:=[(70,49),(70,58),(70,70),(70,71),(70,82),(70,96)],keep:=[((70,5),{ hd:=[1,2,3,29,30],bx:=[5],ex:=[2,3],rt:=[2] }),((70,9),{ hd:=[1,2,3,4,5,29,30,42,43,44],bx:=[],ex:=[1,2,3,4,5,29,30],rt:=[2] }),((70,16),{ hd:=[1,2,3,4,29,30,77,78],bx:=[],ex:=[1,2,3,29,30],rt:=[2] })],gho:=[],ctx:=[(90,C90),(106,C106),(107,C107),(108,C108),(109,C109),(110,C110)] }
@[simp] theorem g70_s:type_of% (cfg_s (g:=g70) rfl):=cfg_s rfl
theorem w70 {h_} {y} (hp:zdf h_=some y):∃ m,callo g70 0 70 [av .shr h_] mem0=some (Res.res y,m):=by
 refine st0 [.cell 2 32] Tryz.func70 ?_
 unfold zdf at hp
 obtain ⟨y_1,h_2,hp⟩:=zaa hp
 have c_3:=C106_eq h_2
 simp at c_3
 simp [Tryz.f70,c_3]
 rcases zad hp with ⟨h_4,hp⟩|⟨h_4,hp⟩
 ·try simp at h_4
  try simp [h_4]
  rcases zad hp with ⟨h_5,hp⟩|⟨h_5,hp⟩
  ·try simp at h_5
   cases hp
   simp [Goal,FnEnd,retR,rsrc,RSrc.val,nodupR,nodup,tupPart,h_4,h_5]
  ·try simp at h_5
   obtain ⟨y_6,h_7,hp⟩:=zaa hp
   have c_8:=zjm h_7
   simp at c_8
   try simp [h_4,h_5,c_8]
   rcases zad hp with ⟨h_9,hp⟩|⟨h_9,hp⟩
   ·try simp at h_9
    try simp [h_4,h_5,h_9]
    obtain ⟨r_84,h_85,hp⟩:=zaa hp
    obtain ⟨I_12,I_12_⟩:=exV fun (s_10:Int × (List TNode) × (List Int)) (σ:St)=>(σ.env 1=uP (1,1)∧σ.env 2=uP (1,2)∧σ.env 3=uP (1,3)∧σ.env 29=uI (h_.next.length:Int)∧σ.env 30=uI s_10.1∧σ.mem (1,1)=some [cL .shr h_.vars,cL .shr h_.next]∧σ.mem (1,2)=some [.l .own 0 [],.l .own 0 []]∧σ.mem (1,3)=some [cL .own s_10.2.1,cL .own s_10.2.2])∧NoBox [(1,1),(1,2),(1,3)] σ.mem
    obtain ⟨X_13,X_13_⟩:=exV fun (r_84:(List TNode) × (List Int)) (out:Out)=>∃ σ:St,out=.exit 0 σ∧(σ.env 2=uP (1,2)∧σ.env 3=uP (1,3)∧σ.mem (1,1)=some [cL .shr h_.vars,cL .shr h_.next]∧σ.mem (1,2)=some [.l .own 0 [],.l .own 0 []]∧σ.mem (1,3)=some [cL .own r_84.1,cL .own r_84.2])∧NoBox [(1,1),(1,2),(1,3)] σ.mem
    refine loopP ({ hd:=[1,2,3,29,30],bx:=[5],ex:=[2,3],rt:=[2] }) I_12 X_13 h_85 (by exact rfl) ?_ ?_ ?_
    ·rw [I_12_]
     exact ⟨by simp [zac,zab,h_4,h_5,h_9],NoBox.restrict (by intro k hk hb;simp at hk hb;simp [hk,hb,h_4,h_5,h_9])⟩
    ·intro s_10 σ_14 a_11 hI hp
     rw [I_12_] at hI
     obtain ⟨q_16,hn_15⟩:=hI
     try simp [h_4,h_5,h_9,q_16]
     rcases zad hp with ⟨h_17,hp⟩|⟨h_17,hp⟩
     ·try simp at h_17
      obtain ⟨y_18,h_19,hp⟩:=zaa hp
      have c_20:=C108_eq h_19
      simp at c_20
      obtain ⟨y_21,h_22,hp⟩:=zaa hp
      have c_23:=zqz h_22
      simp at c_23
      have n_24:=hn_15 (1,5) (by simp)
      try simp [h_4,h_5,h_9,q_16,h_17,c_20,c_23,n_24]
      obtain ⟨r_54,h_55,hp⟩:=zaa hp
      obtain ⟨I_27,I_27_⟩:=exV fun (s_25:Int × (List Int) × (List Int)) (σ:St)=>(σ.env 1=uP (1,1)∧σ.env 2=uP (1,2)∧σ.env 3=uP (1,3)∧σ.env 4=uI s_10.1∧σ.env 5=uP (1,5)∧σ.env 29=uI (h_.next.length:Int)∧σ.env 30=uI s_10.1∧σ.env 42=uL .shr h_.vars∧σ.env 43=uI (h_.vars.length:Int)∧σ.env 44=uI s_25.1∧σ.mem (1,1)=some [cL .shr h_.vars,cL .shr h_.next]∧σ.mem (1,2)=some [.l .own 0 [],.l .own 0 []]∧σ.mem (1,3)=some [cL .own s_10.2.1,cL .own s_10.2.2]∧σ.mem (1,5)=some [cL .own s_25.2.1,cL .own s_25.2.2,cI y_21,cI 0])∧NoBox [(1,1),(1,2),(1,3),(1,5)] σ.mem
      obtain ⟨X_28,X_28_⟩:=exV fun (r_54:(List Int) × (List Int)) (out:Out)=>∃ σ:St,out=.exit 2 σ∧(σ.env 1=uP (1,1)∧σ.env 2=uP (1,2)∧σ.env 3=uP (1,3)∧σ.env 4=uI s_10.1∧σ.env 5=uP (1,5)∧σ.env 29=uI (h_.next.length:Int)∧σ.env 30=uI s_10.1∧σ.mem (1,1)=some [cL .shr h_.vars,cL .shr h_.next]∧σ.mem (1,2)=some [.l .own 0 [],.l .own 0 []]∧σ.mem (1,3)=some [cL .own s_10.2.1,cL .own s_10.2.2]∧σ.mem (1,5)=some [cL .own r_54.1,cL .own r_54.2,cI y_21,cI 0])∧NoBox [(1,1),(1,2),(1,3),(1,5)] σ.mem
      refine loopP ({ hd:=[1,2,3,4,5,29,30,42,43,44],bx:=[],ex:=[1,2,3,4,5,29,30],rt:=[2] }) I_27 X_28 h_55 (by exact rfl) ?_ ?_ ?_
      ·rw [I_27_]
       exact ⟨by simp [zac,zab,h_4,h_5,h_9,q_16,h_17],NoBox.restrict (by intro k hk hb;simp at hk hb;simp [hk,hb,h_4,h_5,h_9,q_16,h_17,hn_15 k (by simp [hk,hb])])⟩
      ·intro s_25 σ_29 a_26 hI hp
       rw [I_27_] at hI
       obtain ⟨q_31,hn_30⟩:=hI
       try simp [h_4,h_5,h_9,h_17,q_31]
       rcases zad hp with ⟨h_32,hp⟩|⟨h_32,hp⟩
       ·try simp at h_32
        obtain ⟨e_33,h_34,hp⟩:=zaa hp
        have b_35:=at_lo h_34
        have b_36:=at_hi h_34
        try simp at b_35 b_36
        have c_37:=seg_at' h_34 0 1 (by decide) (ds:=[.sc (.int .i64 e_33)]) rfl
        try simp at c_37
        obtain ⟨y_38,h_39,hp⟩:=zaa hp
        have c_40:=zqz h_39
        simp at c_40
        obtain ⟨_,h_41,hp⟩:=zaa hp
        have b_42:=zbc h_41
        try simp at b_42
        obtain ⟨y_43,h_44,hp⟩:=zaa hp
        have c_45:=C110_eq h_44
        simp at c_45
        obtain ⟨y_46,h_47,hp⟩:=zaa hp
        have c_48:=C109_eq h_47
        simp at c_48
        obtain ⟨y_49,h_50,hp⟩:=zaa hp
        have c_51:=zqz h_50
        simp at c_51
        obtain ⟨_,h_52,hp⟩:=zaa hp
        have b_53:=zbc h_52
        try simp at b_53
        cases hp
        try simp [h_4,h_5,h_9,h_17,q_31,h_32,b_35,b_36,c_37,c_40,b_42,c_45,c_48,c_51,b_53]
        refine zaf ?_
        rw [I_27_]
        exact ⟨by simp [zac,zab,h_4,h_5,h_9,h_17,q_31,h_32,b_35,b_36,c_37,c_40,b_42,c_45,c_48,c_51,b_53],NoBox.restrict (by intro k hk hb;simp at hk hb;simp [hk,hb,h_4,h_5,h_9,h_17,q_31,h_32,b_35,b_36,c_37,c_40,b_42,c_45,c_48,c_51,b_53,hn_30 k (by simp [hk,hb])])⟩
       ·try simp at h_32
        cases hp
        try simp [h_4,h_5,h_9,h_17,q_31,h_32]
        refine zai ?_
        rw [X_28_]
        exact ⟨_,rfl,by simp [zac,zab,h_4,h_5,h_9,h_17,q_31,h_32],NoBox.restrict (by intro k hk hb;simp at hk hb;simp [hk,hb,h_4,h_5,h_9,h_17,q_31,h_32,hn_30 k (by simp [hk,hb])])⟩
      ·intro out hX
       rw [X_28_] at hX
       obtain ⟨σ_56,rfl,q_58,hn_57⟩:=hX
       obtain ⟨_,h_59,hp⟩:=zaa hp
       have b_60:=zbc h_59
       try simp at b_60
       try simp [h_4,h_5,h_9,h_17,q_58,b_60]
       obtain ⟨r_79,h_80,hp⟩:=zaa hp
       obtain ⟨I_63,I_63_⟩:=exV fun (s_61:Int × (List Int)) (σ:St)=>(σ.env 1=uP (1,1)∧σ.env 2=uP (1,2)∧σ.env 3=uP (1,3)∧σ.env 4=uI s_10.1∧σ.env 29=uI (h_.next.length:Int)∧σ.env 30=uI s_10.1∧σ.env 77=uI (h_.next.length:Int)∧σ.env 78=uI s_61.1∧σ.mem (1,1)=some [cL .shr h_.vars,cL .shr h_.next]∧σ.mem (1,2)=some [.l .own 0 [],.l .own 0 []]∧σ.mem (1,3)=some [cL .own (s_10.2.1 ++ [(⟨r_54.1,r_54.2,y_21,0⟩:TNode)]),cL .own s_61.2]∧σ.mem (1,5)=some [.dead,.dead,.dead,.dead])∧NoBox [(1,1),(1,2),(1,3),(1,5)] σ.mem
       obtain ⟨X_64,X_64_⟩:=exV fun (r_79:(List Int)) (out:Out)=>∃ σ:St,out=.exit 4 σ∧(σ.env 1=uP (1,1)∧σ.env 2=uP (1,2)∧σ.env 3=uP (1,3)∧σ.env 29=uI (h_.next.length:Int)∧σ.env 30=uI s_10.1∧σ.mem (1,1)=some [cL .shr h_.vars,cL .shr h_.next]∧σ.mem (1,2)=some [.l .own 0 [],.l .own 0 []]∧σ.mem (1,3)=some [cL .own (s_10.2.1 ++ [(⟨r_54.1,r_54.2,y_21,0⟩:TNode)]),cL .own r_79]∧σ.mem (1,5)=some [.dead,.dead,.dead,.dead])∧NoBox [(1,1),(1,2),(1,3),(1,5)] σ.mem
       refine loopP ({ hd:=[1,2,3,4,29,30,77,78],bx:=[],ex:=[1,2,3,29,30],rt:=[2] }) I_63 X_64 h_80 (by exact rfl) ?_ ?_ ?_
       ·rw [I_63_]
        exact ⟨by simp [zac,zab,h_4,h_5,h_9,h_17,q_58],NoBox.restrict (by intro k hk hb;simp at hk hb;simp [hk,hb,h_4,h_5,h_9,h_17,q_58,hn_57 k (by simp [hk,hb])])⟩
       ·intro s_61 σ_65 a_62 hI hp
        rw [I_63_] at hI
        obtain ⟨q_67,hn_66⟩:=hI
        try simp [h_4,h_5,h_9,h_17,q_67]
        rcases zad hp with ⟨h_68,hp⟩|⟨h_68,hp⟩
        ·try simp at h_68
         obtain ⟨e_69,h_70,hp⟩:=zaa hp
         have b_71:=at_lo h_70
         have b_72:=at_hi h_70
         try simp at b_71 b_72
         have c_73:=seg_at' h_70 0 1 (by decide) (ds:=[.sc (.int .i64 e_69)]) rfl
         try simp at c_73
         obtain ⟨y_74,h_75,hp⟩:=zaa hp
         have c_76:=zqz h_75
         simp at c_76
         obtain ⟨_,h_77,hp⟩:=zaa hp
         have b_78:=zbc h_77
         try simp at b_78
         cases hp
         try simp [h_4,h_5,h_9,h_17,q_67,h_68,b_71,b_72,c_73,c_76,b_78]
         refine zaf ?_
         rw [I_63_]
         exact ⟨by simp [zac,zab,h_4,h_5,h_9,h_17,q_67,h_68,b_71,b_72,c_73,c_76,b_78],NoBox.restrict (by intro k hk hb;simp at hk hb;simp [hk,hb,h_4,h_5,h_9,h_17,q_67,h_68,b_71,b_72,c_73,c_76,b_78,hn_66 k (by simp [hk,hb])])⟩
        ·try simp at h_68
         cases hp
         try simp [h_4,h_5,h_9,h_17,q_67,h_68]
         refine zai ?_
         rw [X_64_]
         exact ⟨_,rfl,by simp [zac,zab,h_4,h_5,h_9,h_17,q_67,h_68],NoBox.restrict (by intro k hk hb;simp at hk hb;simp [hk,hb,h_4,h_5,h_9,h_17,q_67,h_68,hn_66 k (by simp [hk,hb])])⟩
       ·intro out hX
        rw [X_64_] at hX
        obtain ⟨σ_81,rfl,q_83,hn_82⟩:=hX
        cases hp
        try simp [h_4,h_5,h_9,h_17,q_83]
        refine zaf ?_
        rw [I_12_]
        exact ⟨by simp [zac,zab,h_4,h_5,h_9,h_17,q_83],NoBox.restrict (by intro k hk hb;simp at hk hb;simp [hk,hb,h_4,h_5,h_9,h_17,q_83,hn_82 k (by simp [hk,hb])])⟩
     ·try simp at h_17
      cases hp
      try simp [h_4,h_5,h_9,q_16,h_17]
      refine zai ?_
      rw [X_13_]
      exact ⟨_,rfl,by simp [zac,zab,h_4,h_5,h_9,q_16,h_17],NoBox.restrict (by intro k hk hb;simp at hk hb;simp [hk,hb,h_4,h_5,h_9,q_16,h_17,hn_15 k (by simp [hk,hb])])⟩
    ·intro out hX
     rw [X_13_] at hX
     obtain ⟨σ_86,rfl,q_88,hn_87⟩:=hX
     cases hp
     simp [Goal,FnEnd,retR,rsrc,RSrc.val,nodupR,nodup,tupPart,h_4,h_5,h_9,q_88]
   ·try simp at h_9
    cases hp
    simp [Goal,FnEnd,retR,rsrc,RSrc.val,nodupR,nodup,tupPart,h_4,h_5,h_9]
 ·try simp at h_4
  cases hp
  simp [Goal,FnEnd,retR,rsrc,RSrc.val,nodupR,nodup,tupPart,h_4]
theorem pc70:PC Tryz.prog 70 C70:=pc_of (g:=g70) (zag _ g70_s.2.1 ⟨pc90,pc106,pc107,pc108,pc109,pc110,trivial⟩) (ent Tryz.func70) fun x y h=>w70 h
end Go.Proofs

