import Derived.Test.YtenalemhbjojeaaGreatDoorEvA15
set_option linter.unusedSimpArgs false
set_option linter.unusedVariables false
set_option linter.unnecessarySimpa false
noncomputable section
set_option maxHeartbeats 4000000
set_option maxRecDepth 100000
namespace Go.Proofs
open Go.Ev
def C49:List AV→Option AV:=specP (X:=(List TStructure) × Unit) fun x=>znb x.1
def g49:Cfg:={ P:=Tryz.prog,take:=[(49,12),(49,20)],keep:=[((49,3),{ hd:=[0,3,4],bx:=[],ex:=[3],rt:=[2] })],gho:=[],ctx:=[(32,C32)] }
@[simp] theorem g49_s:type_of% (cfg_s (g:=g49) rfl):=cfg_s rfl
def C18:List AV→Option AV:=specP (X:=(List TStructure) × (List TStructure) × Unit) fun x=>zhz x.1 x.2.1
theorem C18_eq {a_ b_} {y} (h:zhz a_ b_=some y):C18 [av .shr a_,av .shr b_]=some (Res.res y):=zaf (x:=(a_,b_,())) h
def g18:Cfg:={ P:=Tryz.prog,take:=[(18,21)],keep:=[((18,3),{ hd:=[1,5,6],bx:=[],ex:=[5],rt:=[4] })],gho:=[],ctx:=[(9,C9),(49,C49)] }
@[simp] theorem g18_s:type_of% (cfg_s (g:=g18) rfl):=cfg_s rfl
def C19:List AV→Option AV:=specP (X:=(List TStructure) × (List TStructure) × Unit) fun x=>zgt x.1 x.2.1
theorem C19_eq {a_ b_} {y} (h:zgt a_ b_=some y):C19 [av .shr a_,av .shr b_]=some (Res.res y):=zaf (x:=(a_,b_,())) h
def g19:Cfg:={ P:=Tryz.prog,take:=[(19,20)],keep:=[((19,3),{ hd:=[5,10,11,12],bx:=[7],ex:=[5],rt:=[4] })],gho:=[],ctx:=[(12,C12),(35,C35)] }
@[simp] theorem g19_s:type_of% (cfg_s (g:=g19) rfl):=cfg_s rfl
def g4:Cfg:={ P:=Tryz.prog,take:=[],keep:=[((15,2),rowKp),((45,2),rowKp),((46,2),rowKp)],gho:=[((4,19),[.many (thawSlot 1 7)]),((4,2000019),[.many (frzSlot 1 7)]),((4,20),[.many (thawSlot 1 8)]),((4,2000020),[.many (frzSlot 1 8)]),((4,24),[.many (thawSlot 1 9)]),((4,2000024),[.many (frzSlot 1 9)])],ctx:=[(7,C7),(10,C10),(13,C13),(17,C17),(18,C18),(19,C19)] }
@[simp] theorem g4_s:type_of% (cfg_s (g:=g4) rfl):=cfg_s rfl
theorem w4 {aA aB} {y} (hp:laws_FnExactUniteSets aA aB=some y):∃ m,callo g4 0 4 [av .shr aA,av .shr aB] mem0=some (Res.res y,m):=by
 have G_15:G15 g4:=⟨rfl,by kernel_rfl,rfl,fun t=>by simp,noAway (fun t=>by simp) (by simp) (fun t=>by simp),by simp [lookN],fun i=>by simp [lookK],by simp [g4,lookK],by simp⟩
 have G_45:G45 g4:=⟨rfl,by kernel_rfl,rfl,fun t=>by simp,noAway (fun t=>by simp) (by simp) (fun t=>by simp),by simp [lookN],fun i=>by simp [lookK],by simp [g4,lookK],by simp⟩
 have G_46:G46 g4:=⟨rfl,by kernel_rfl,rfl,fun t=>by simp,noAway (fun t=>by simp) (by simp) (fun t=>by simp),by simp [lookN],fun i=>by simp [lookK],by simp [g4,lookK],by simp⟩
 refine st0 [.tmp 4] Tryz.func4 ?_
 unfold laws_FnExactUniteSets at hp
 obtain ⟨y_1,h_2,hp⟩:=zab hp
 have c_3:=C7_eq h_2
 simp at c_3
 simp [Tryz.f4,c_3]
 rcases zad hp with ⟨h_4,hp⟩|⟨h_4,hp⟩
 ·try simp at h_4
  cases hp
  simp [Goal,FnEnd,h_4]
 ·try simp at h_4
  obtain ⟨y_5,h_6,hp⟩:=zab hp
  have c_7:=C7_eq h_6
  simp at c_7
  try simp [h_4,c_7]
  rcases zad hp with ⟨h_8,hp⟩|⟨h_8,hp⟩
  ·try simp at h_8
   cases hp
   simp [Goal,FnEnd,h_4,h_8]
  ·try simp at h_8
   obtain ⟨y_9,h_10,hp⟩:=zab hp
   have c_11:=zqp h_10
   simp at c_11
   obtain ⟨y_12,h_13,hp⟩:=zab hp
   have c_14:=zqp h_13
   simp at c_14
   obtain ⟨y_15,h_16,hp⟩:=zab hp
   have c_17:=C18_eq h_16
   simp at c_17
   obtain ⟨y_18,h_19,hp⟩:=zab hp
   cases Option.some.inj (h_10.symm.trans h_19)
   obtain ⟨y_20,h_21,hp⟩:=zab hp
   cases Option.some.inj (h_13.symm.trans h_21)
   obtain ⟨y_22,h_23,hp⟩:=zab hp
   have c_24:=C19_eq h_23
   simp at c_24
   obtain ⟨y_25,h_26,hp⟩:=zab hp
   have c_27:=zjb h_26
   simp at c_27
   try simp [h_4,h_8,c_11,c_14,c_17,c_11,c_14,c_24,c_27]
   rcases zad hp with ⟨h_28,hp⟩|⟨h_28,hp⟩
   ·try simp at h_28
    obtain ⟨y_29,h_30,hp⟩:=zab hp
    cases Option.some.inj (h_10.symm.trans h_30)
    obtain ⟨y_31,h_32,hp⟩:=zab hp
    have c_33:=zjb h_32
    simp at c_33
    try simp [h_4,h_8,h_28,c_11,c_33]
    rcases zad hp with ⟨h_34,hp⟩|⟨h_34,hp⟩
    ·try simp at h_34
     obtain ⟨y_35,h_36,hp⟩:=zab hp
     cases Option.some.inj (h_13.symm.trans h_36)
     obtain ⟨y_37,h_38,hp⟩:=zab hp
     have c_39:=zjb h_38
     simp at c_39
     try simp [h_4,h_8,h_28,h_34,c_14,c_39]
     rcases zad hp with ⟨h_40,hp⟩|⟨h_40,hp⟩
     ·try simp at h_40
      obtain ⟨r_41,h_42,hp⟩:=zab hp
      obtain ⟨lg_43,e_44⟩:=zht h_42
      have mk_45:=mk15 G_15 G_45 G_46 y_9 1 lg_43
      rw [e_44] at mk_45
      try simp [h_4,h_8,h_28,h_34,h_40]
      refine zhj 7 10 50 51 52 15 mk_45 (by simp [h_4,h_8,h_28,h_34,h_40]) (fun _=>rfl) (by simp [h_4,h_8,h_28,h_34,h_40]) (WfE.wfE _) (WfE.wfE _) (fun key hkey=>by simp [mem0,h_4,h_8,h_28,h_34,h_40]) (by simp) (by simp) (by simp) rfl (by decide) fun σ_46 qq_47 hq_48 hx_49 hk_50 he_51 hd_52 hm_53=>?_
      obtain ⟨q_54,q_55,q_56,q_57,q_58,q_59⟩:σ_46.env 0=uL .shr aA∧σ_46.env 1=uL .shr aB∧σ_46.env 6=uL .own y_15∧σ_46.env 8=uL .own y_12∧σ_46.env 9=uL .own y_22∧σ_46.env 10=uI r_41.2:=by refine ⟨(he_51 0 (by decide) (by decide) (by decide) (by decide) (by decide)).trans ?_,(he_51 1 (by decide) (by decide) (by decide) (by decide) (by decide)).trans ?_,(he_51 6 (by decide) (by decide) (by decide) (by decide) (by decide)).trans ?_,(he_51 8 (by decide) (by decide) (by decide) (by decide) (by decide)).trans ?_,(he_51 9 (by decide) (by decide) (by decide) (by decide) (by decide)).trans ?_,hk_50⟩ <;> simp [h_4,h_8,h_28,h_34,h_40]
      have hn_60:NoBox [] σ_46.mem:=by
       intro key hk
       by_cases hl:1 < key.1∨bigK≤key.2
       ·exact hd_52 key hl
       ·rw [hm_53 key (by omega) (by omega)]
        simp at hk
        simp [mem0,hk,h_4,h_8,h_28,h_34,h_40]
      obtain ⟨r_61,h_62,hp⟩:=zab hp
      obtain ⟨lg_63,e_64⟩:=zht h_62
      have mk_65:=mk15 G_15 G_45 G_46 y_12 r_41.2 lg_63
      rw [e_64] at mk_65
      try simp [h_4,h_8,h_28,h_34,h_40,q_54,q_55,q_56,q_57,q_58,q_59]
      refine zhj 8 10 53 54 55 15 mk_65 (by simp [h_4,h_8,h_28,h_34,h_40,q_54,q_55,q_56,q_57,q_58,q_59]) (fun _=>rfl) (by simp [h_4,h_8,h_28,h_34,h_40,q_54,q_55,q_56,q_57,q_58,q_59]) (WfE.wfE _) (WfE.wfE _) (fun key hkey=>by simp [mem0,h_4,h_8,h_28,h_34,h_40,q_54,q_55,q_56,q_57,q_58,q_59,hn_60 key (by simp)]) (by simp) (by simp) (by simp) rfl (by decide) fun σ_66 qq_67 hq_68 hx_69 hk_70 he_71 hd_72 hm_73=>?_
      obtain ⟨q_74,q_75,q_76,q_77,q_78⟩:σ_66.env 0=uL .shr aA∧σ_66.env 1=uL .shr aB∧σ_66.env 6=uL .own y_15∧σ_66.env 9=uL .own y_22∧σ_66.env 10=uI r_61.2:=by refine ⟨(he_71 0 (by decide) (by decide) (by decide) (by decide) (by decide)).trans ?_,(he_71 1 (by decide) (by decide) (by decide) (by decide) (by decide)).trans ?_,(he_71 6 (by decide) (by decide) (by decide) (by decide) (by decide)).trans ?_,(he_71 9 (by decide) (by decide) (by decide) (by decide) (by decide)).trans ?_,hk_70⟩ <;> simp [h_4,h_8,h_28,h_34,h_40,q_54,q_55,q_56,q_57,q_58,q_59]
      have hn_79:NoBox [] σ_66.mem:=by
       intro key hk
       by_cases hl:1 < key.1∨bigK≤key.2
       ·exact hd_72 key hl
       ·rw [hm_73 key (by omega) (by omega)]
        simp at hk
        simp [mem0,hk,h_4,h_8,h_28,h_34,h_40,q_54,q_55,q_56,q_57,q_58,q_59,hn_60 key (by simp [hk])]
      try simp [h_4,h_8,h_28,h_34,h_40,q_74,q_75,q_76,q_77,q_78]
      rcases zad hp with ⟨h_80,hp⟩|⟨h_80,hp⟩
      ·try simp at h_80
       cases hp
       simp [Goal,FnEnd,h_4,h_8,h_28,h_34,h_40,q_74,q_75,q_76,q_77,q_78,h_80]
      ·try simp at h_80
       obtain ⟨y_81,h_82,hp⟩:=zab hp
       have c_83:=zjb h_82
       simp at c_83
       try simp [h_4,h_8,h_28,h_34,h_40,q_74,q_75,q_76,q_77,q_78,h_80,c_83]
       rcases zad hp with ⟨h_84,hp⟩|⟨h_84,hp⟩
       ·try simp at h_84
        obtain ⟨r_85,h_86,hp⟩:=zab hp
        obtain ⟨lg_87,e_88⟩:=zht h_86
        have mk_89:=mk15 G_15 G_45 G_46 y_22 1 lg_87
        rw [e_88] at mk_89
        try simp [h_4,h_8,h_28,h_34,h_40,q_74,q_75,q_76,q_77,q_78,h_80,h_84]
        refine zhj 9 11 64 65 66 15 mk_89 (by simp [h_4,h_8,h_28,h_34,h_40,q_74,q_75,q_76,q_77,q_78,h_80,h_84]) (fun _=>rfl) (by simp [h_4,h_8,h_28,h_34,h_40,q_74,q_75,q_76,q_77,q_78,h_80,h_84]) (WfE.wfE _) (WfE.wfE _) (fun key hkey=>by simp [mem0,h_4,h_8,h_28,h_34,h_40,q_74,q_75,q_76,q_77,q_78,h_80,h_84,hn_79 key (by simp)]) (by simp) (by simp) (by simp) rfl (by decide) fun σ_90 qq_91 hq_92 hx_93 hk_94 he_95 hd_96 hm_97=>?_
        obtain ⟨q_98,q_99,q_100,q_101,q_102⟩:σ_90.env 0=uL .shr aA∧σ_90.env 1=uL .shr aB∧σ_90.env 6=uL .own y_15∧σ_90.env 9=uL .own r_85.1∧σ_90.env 11=uI r_85.2:=by refine ⟨(he_95 0 (by decide) (by decide) (by decide) (by decide) (by decide)).trans ?_,(he_95 1 (by decide) (by decide) (by decide) (by decide) (by decide)).trans ?_,(he_95 6 (by decide) (by decide) (by decide) (by decide) (by decide)).trans ?_,hx_93.trans (by simp),hk_94⟩ <;> simp [h_4,h_8,h_28,h_34,h_40,q_74,q_75,q_76,q_77,q_78,h_80,h_84]
        have hn_103:NoBox [] σ_90.mem:=by
         intro key hk
         by_cases hl:1 < key.1∨bigK≤key.2
         ·exact hd_96 key hl
         ·rw [hm_97 key (by omega) (by omega)]
          simp at hk
          simp [mem0,hk,h_4,h_8,h_28,h_34,h_40,q_74,q_75,q_76,q_77,q_78,h_80,h_84,hn_79 key (by simp [hk])]
        obtain ⟨y_104,h_105,hp⟩:=zab hp
        have c_106:=C17_eq h_105
        simp at c_106
        try simp [h_4,h_8,h_28,h_34,h_40,h_80,h_84,q_98,q_99,q_100,q_101,q_102,c_106]
        rcases zad hp with ⟨h_107,hp⟩|⟨h_107,hp⟩
        ·try simp at h_107
         cases hp
         simp [Goal,FnEnd,h_4,h_8,h_28,h_34,h_40,h_80,h_84,q_98,q_99,q_100,q_101,q_102,h_107]
        ·try simp at h_107
         try simp [h_4,h_8,h_28,h_34,h_40,h_80,h_84,q_98,q_99,q_100,q_101,q_102,h_107]
         rcases zad hp with ⟨h_108,hp⟩|⟨h_108,hp⟩
         ·try simp at h_108
          cases hp
          simp [Goal,FnEnd,h_4,h_8,h_28,h_34,h_40,h_80,h_84,q_98,q_99,q_100,q_101,q_102,h_107,h_108]
         ·try simp at h_108
          obtain ⟨y_109,h_110,hp⟩:=zab hp
          have c_111:=zqp h_110
          simp at c_111
          obtain ⟨y_112,h_113,hp⟩:=zab hp
          have c_114:=zqp h_113
          simp at c_114
          obtain ⟨y_115,h_116,hp⟩:=zab hp
          have c_117:=C19_eq h_116
          simp at c_117
          obtain ⟨y_118,h_119,hp⟩:=zab hp
          have c_120:=zjb h_119
          simp at c_120
          try simp [h_4,h_8,h_28,h_34,h_40,h_80,h_84,q_98,q_99,q_100,q_101,q_102,h_107,h_108,c_111,c_114,c_117,c_120]
          rcases zad hp with ⟨h_121,hp⟩|⟨h_121,hp⟩
          ·try simp at h_121
           obtain ⟨y_122,h_123,hp⟩:=zab hp
           cases Option.some.inj (h_105.symm.trans h_123)
           cases hp
           simp [Goal,FnEnd,h_4,h_8,h_28,h_34,h_40,h_80,h_84,q_98,q_99,q_100,q_101,q_102,h_107,h_108,h_121,c_106]
          ·try simp at h_121
           cases hp
           simp [Goal,FnEnd,h_4,h_8,h_28,h_34,h_40,h_80,h_84,q_98,q_99,q_100,q_101,q_102,h_107,h_108,h_121]
       ·try simp at h_84
        cases hp
        simp [Goal,FnEnd,h_4,h_8,h_28,h_34,h_40,q_74,q_75,q_76,q_77,q_78,h_80,h_84]
     ·try simp at h_40
      cases hp
      simp [Goal,FnEnd,h_4,h_8,h_28,h_34,h_40]
    ·try simp at h_34
     cases hp
     simp [Goal,FnEnd,h_4,h_8,h_28,h_34]
   ·try simp at h_28
    cases hp
    simp [Goal,FnEnd,h_4,h_8,h_28]
def C51:List AV→Option AV:=specP (X:=THeap × Int × Unit) fun x=>laws_szHeap x.1 x.2.1
theorem C51_eq {a_ left} {y} (h:laws_szHeap a_ left=some y):C51 [av .shr a_,av .shr left]=some (Res.res y):=zaf (x:=(a_,left,())) h
def g51:Cfg:={ P:=Tryz.prog,take:=[],keep:=[],gho:=[],ctx:=[(29,C29)] }
@[simp] theorem g51_s:type_of% (cfg_s (g:=g51) rfl):=cfg_s rfl
theorem w51 {a_ left} {y} (hp:laws_szHeap a_ left=some y):∃ m,callo g51 0 51 [av .shr a_,av .shr left] mem0=some (Res.res y,m):=by
 refine st0 [.tmp 4] Tryz.func51 ?_
 unfold laws_szHeap at hp
 obtain ⟨y_1,h_2,hp⟩:=zab hp
 have c_3:=C29_eq h_2
 simp at c_3
 simp [Tryz.f51,c_3]
 rcases zad hp with ⟨h_4,hp⟩|⟨h_4,hp⟩
 ·try simp at h_4
  cases hp
  simp [Goal,FnEnd,h_4]
 ·try simp at h_4
  obtain ⟨y_5,h_6,hp⟩:=zab hp
  have c_7:=C29_eq h_6
  simp at c_7
  try simp [h_4,c_7]
  rcases zad hp with ⟨h_8,hp⟩|⟨h_8,hp⟩
  ·try simp at h_8
   cases hp
   simp [Goal,FnEnd,h_4,h_8]
  ·try simp at h_8
   cases hp
   simp [Goal,FnEnd,h_4,h_8]
theorem pc51:PC Tryz.prog 51 C51:=pc_of (g:=g51) (zah _ g51_s.2.1 ⟨pc29,trivial⟩) (ent Tryz.func51) fun x y h=>w51 h

def C22:List AV→Option AV:=specP (X:=(List THeap) × Int × Unit) fun x=>laws_szHeapS x.1 x.2.1
theorem C22_eq {a_ left} {y} (h:laws_szHeapS a_ left=some y):C22 [av .shr a_,av .shr left]=some (Res.res y):=zaf (x:=(a_,left,())) h
def g22:Cfg:={ P:=Tryz.prog,take:=[],keep:=[((22,5),{ hd:=[0,1,5],bx:=[],ex:=[1],rt:=[4] })],gho:=[],ctx:=[(51,C51)] }
@[simp] theorem g22_s:type_of% (cfg_s (g:=g22) rfl):=cfg_s rfl
theorem w22 {a_ left} {y} (hp:laws_szHeapS a_ left=some y):∃ m,callo g22 0 22 [av .shr a_,av .shr left] mem0=some (Res.res y,m):=by
 refine st0 [.tmp 4] Tryz.func22 ?_
 unfold laws_szHeapS at hp
 simp [Tryz.f22]
 rcases zad hp with ⟨h_1,hp⟩|⟨h_1,hp⟩
 ·try simp at h_1
  cases hp
  simp [Goal,FnEnd,h_1]
 ·try simp at h_1
  try simp [h_1]
  obtain ⟨r_19,h_20,hp⟩:=zab hp
  obtain ⟨I_4,I_4_⟩:=exV fun (s_2:Int × Int) (σ:St)=>(σ.env 0=uL .shr a_∧σ.env 1=uI s_2.1∧σ.env 5=uI s_2.2)∧σ.mem=mem0
  obtain ⟨X_5,X_5_⟩:=exV fun (r_19:(Int) ⊕ (Int)) (out:Out)=>Sum.elim (fun r_19=>∃ σ:St,out=.ret σ∧σ.env 4=uI r_19∧σ.mem=mem0) (fun r_19=>∃ σ:St,out=.exit 0 σ∧σ.env 1=uI r_19∧σ.mem=mem0) r_19
  refine loopP ({ hd:=[0,1,5],bx:=[],ex:=[1],rt:=[4] }) I_4 X_5 h_20 (by exact rfl) ?_ ?_ ?_
  ·rw [I_4_]
   exact ⟨by simp [zac,zaa,h_1],by simp [zaa,h_1]⟩
  ·intro s_2 σ_6 a_3 hI hp
   rw [I_4_] at hI
   obtain ⟨q_8,q_7⟩:=hI
   try simp [h_1,q_8,q_7]
   rcases zad hp with ⟨h_9,hp⟩|⟨h_9,hp⟩
   ·try simp at h_9
    obtain ⟨e_10,h_11,hp⟩:=zab hp
    have b_12:=at_lo h_11
    have b_13:=at_hi h_11
    try simp at b_12 b_13
    have c_14:=seg_at' h_11 0 2 (by decide) (ds:=[.sl e_10.vars.length (encL e_10.vars),.sl e_10.next.length (encL e_10.next)]) rfl
    try simp at c_14
    obtain ⟨y_15,h_16,hp⟩:=zab hp
    have c_17:=C51_eq h_16
    simp at c_17
    try simp [h_1,q_8,q_7,h_9,b_12,b_13,c_14,c_17]
    rcases zad hp with ⟨h_18,hp⟩|⟨h_18,hp⟩
    ·try simp at h_18
     cases hp
     try simp [h_1,q_8,q_7,h_9,h_18]
     refine zal ?_
     rw [X_5_]
     exact ⟨_,rfl,by simp [zac,zaa,h_1,q_8,q_7,h_9,h_18],by simp [zaa,h_1,q_8,q_7,h_9,h_18]⟩
    ·try simp at h_18
     cases hp
     try simp [h_1,q_8,q_7,h_9,h_18]
     refine zag ?_
     rw [I_4_]
     exact ⟨by simp [zac,zaa,h_1,q_8,q_7,h_9,h_18],by simp [zaa,h_1,q_8,q_7,h_9,h_18]⟩
   ·try simp at h_9
    cases hp
    try simp [h_1,q_8,q_7,h_9]
    refine zak ?_
    rw [X_5_]
    exact ⟨_,rfl,by simp [zac,zaa,h_1,q_8,q_7,h_9],by simp [zaa,h_1,q_8,q_7,h_9]⟩
  ·intro out hX
   rw [X_5_] at hX
   rcases r_19 with r_19 | r_19
   ·simp only [Sum.elim_inl,Sum.elim_inr] at hX hp
    obtain ⟨σ_21,rfl,q_23,q_22⟩:=hX
    cases hp
    simp [Goal,FnEnd,h_1,q_23,q_22]
   ·simp only [Sum.elim_inl,Sum.elim_inr] at hX hp
    obtain ⟨σ_24,rfl,q_26,q_25⟩:=hX
    cases hp
    simp [Goal,FnEnd,h_1,q_26,q_25]
theorem pc22:PC Tryz.prog 22 C22:=pc_of (g:=g22) (zah _ g22_s.2.1 ⟨pc51,trivial⟩) (ent Tryz.func22) fun x y h=>w22 h

def C53:List AV→Option AV:=specP (X:=THeap × Unit) fun x=>laws_toHeap x.1
theorem C53_eq {a_} {y} (h:laws_toHeap a_=some y):C53 [av .shr a_]=some (Res.res y):=zaf (x:=(a_,())) h
def g53:Cfg:={ P:=Tryz.prog,take:=[(53,12)],keep:=[],gho:=[],ctx:=[(34,C34)] }
@[simp] theorem g53_s:type_of% (cfg_s (g:=g53) rfl):=cfg_s rfl
theorem w53 {a_} {y} (hp:laws_toHeap a_=some y):∃ m,callo g53 0 53 [av .shr a_] mem0=some (Res.res y,m):=by
 refine st0 [.cell 2 73] Tryz.func53 ?_
 unfold laws_toHeap at hp
 obtain ⟨y_1,h_2,hp⟩:=zab hp
 have c_3:=C34_eq h_2
 simp at c_3
 obtain ⟨y_4,h_5,hp⟩:=zab hp
 have c_6:=C34_eq h_5
 simp at c_6
 cases hp
 simp [Tryz.f53,Goal,FnEnd,retR,rsrc,RSrc.val,nodupR,nodup,tupPart,c_3,c_6]
theorem pc53:PC Tryz.prog 53 C53:=pc_of (g:=g53) (zah _ g53_s.2.1 ⟨pc34,trivial⟩) (ent Tryz.func53) fun x y h=>w53 h

def C24:List AV→Option AV:=specP (X:=(List THeap) × Unit) fun x=>laws_toHeapS x.1
theorem C24_eq {a_} {y} (h:laws_toHeapS a_=some y):C24 [av .shr a_]=some (Res.res y):=zaf (x:=(a_,())) h
def g24:Cfg:={ P:=Tryz.prog,take:=[(24,7)],keep:=[((24,3),{ hd:=[0,3,4],bx:=[],ex:=[3],rt:=[2] })],gho:=[((24,atEnd),[.frz (.sl 2 0)])],ctx:=[(53,C53)] }
@[simp] theorem g24_s:type_of% (cfg_s (g:=g24) rfl):=cfg_s rfl
theorem w24 {a_} {y} (hp:laws_toHeapS a_=some y):∃ m,callo g24 0 24 [av .shr a_] mem0=some (Res.res y,m):=by
 refine st0 [.tmp 2] Tryz.func24 ?_
 unfold laws_toHeapS at hp
 obtain ⟨_,h_1,hp⟩:=zab hp
 have b_2:=roomI_lo h_1
 have b_3:=roomI_ok h_1
 try simp at b_2 b_3
 have r_4:=zll (a_.length:Int).toNat ((⟨[],[]⟩:THeap):THeap) (by rfl)
 try simp at r_4
 simp [Tryz.f24,b_2,b_3,r_4]
 obtain ⟨r_27,h_28,hp⟩:=zab hp
 obtain ⟨I_7,I_7_⟩:=exV fun (s_5:Int × (List THeap)) (σ:St)=>(σ.env 0=uL .shr a_∧σ.env 3=.one (.bs (1,7) s_5.2.length 2)∧σ.env 4=uI s_5.1∧σ.mem (1,7)=some (rowC s_5.2))∧NoBox [(1,7)] σ.mem
 obtain ⟨X_8,X_8_⟩:=exV fun (r_27:(List THeap)) (out:Out)=>∃ σ:St,out=.exit 0 σ∧(σ.env 3=.one (.bs (1,7) r_27.length 2)∧σ.mem (1,7)=some (rowC r_27))∧NoBox [(1,7)] σ.mem
 refine loopP ({ hd:=[0,3,4],bx:=[],ex:=[3],rt:=[2] }) I_7 X_8 h_28 (by exact rfl) ?_ ?_ ?_
 ·rw [I_7_]
  exact ⟨by simp [zac,zaa],NoBox.restrict (by intro k hk hb;simp at hk hb;simp [hk,hb])⟩
 ·intro s_5 σ_9 a_6 hI hp
  rw [I_7_] at hI
  obtain ⟨q_11,hn_10⟩:=hI
  try simp [q_11]
  rcases zad hp with ⟨h_12,hp⟩|⟨h_12,hp⟩
  ·try simp at h_12
   obtain ⟨e_13,h_14,hp⟩:=zab hp
   have b_15:=at_lo h_14
   have b_16:=at_hi h_14
   try simp at b_15 b_16
   have c_17:=seg_at' h_14 0 2 (by decide) (ds:=[.sl e_13.vars.length (encL e_13.vars),.sl e_13.next.length (encL e_13.next)]) rfl
   try simp at c_17
   obtain ⟨y_18,h_19,hp⟩:=zab hp
   have c_20:=C53_eq h_19
   simp at c_20
   obtain ⟨e_21,h_22,hp⟩:=zab hp
   have b_23:=at_lo h_22
   have b_24:=at_hi h_22
   try simp at b_23 b_24
   have c_25:=zpv h_22 0 y_18 [(cL .own y_18.vars),(cL .own y_18.next)] (by simp) rfl
   try simp at c_25
   have l_26:=row_room h_22 0 (m:=2) (by decide)
   try simp at l_26
   cases hp
   try simp [q_11,h_12,b_15,b_16,c_17,c_20,b_23,b_24,c_25,l_26]
   refine zag ?_
   rw [I_7_]
   exact ⟨by simp [zac,zaa,q_11,h_12,b_15,b_16,c_17,c_20,b_23,b_24,c_25,l_26],NoBox.restrict (by intro k hk hb;simp at hk hb;simp [hk,hb,q_11,h_12,b_15,b_16,c_17,c_20,b_23,b_24,c_25,l_26,hn_10 k (by simp [hk,hb])])⟩
  ·try simp at h_12
   cases hp
   try simp [q_11,h_12]
   refine zak ?_
   rw [X_8_]
   exact ⟨_,rfl,by simp [zac,zaa,q_11,h_12],NoBox.restrict (by intro k hk hb;simp at hk hb;simp [hk,hb,q_11,h_12,hn_10 k (by simp [hk,hb])])⟩
 ·intro out hX
  rw [X_8_] at hX
  obtain ⟨σ_29,rfl,q_31,hn_30⟩:=hX
  cases hp
  simp [Goal,FnEnd,q_31]
theorem pc24:PC Tryz.prog 24 C24:=pc_of (g:=g24) (zah _ g24_s.2.1 ⟨pc53,trivial⟩) (ent Tryz.func24) fun x y h=>w24 h

def C107:List AV→Option AV:=specP (X:=THeap × Unit) fun x=>zfa x.1
theorem C107_eq {h_} {y} (h:zfa h_=some y):C107 [av .shr h_]=some (Res.res y):=zaf (x:=(h_,())) h
def g107:Cfg:={ P:=Tryz.prog,take:=[],keep:=[((107,2),{ hd:=[1,3],bx:=[],ex:=[1],rt:=[2] }),((107,7),{ hd:=[1,4],bx:=[],ex:=[],rt:=[2] })],gho:=[],ctx:=[(62,C62)] }
@[simp] theorem g107_s:type_of% (cfg_s (g:=g107) rfl):=cfg_s rfl
theorem w107 {h_} {y} (hp:zfa h_=some y):∃ m,callo g107 0 107 [av .shr h_] mem0=some (Res.res y,m):=by
 refine st0 [.tmp 2] Tryz.func107 ?_
 unfold zfa at hp
 simp [Tryz.f107]
 obtain ⟨r_18,h_19,hp⟩:=zab hp
 obtain ⟨I_3,I_3_⟩:=exV fun (s_1:Int) (σ:St)=>(σ.env 1=uP (1,1)∧σ.env 3=uI s_1∧σ.mem (1,1)=some [cL .shr h_.vars,cL .shr h_.next])∧NoBox [(1,1)] σ.mem
 obtain ⟨X_4,X_4_⟩:=exV fun (r_18:(Unit) ⊕ (Unit)) (out:Out)=>Sum.elim (fun r_18=>∃ σ:St,out=.ret σ∧(σ.env 2=uB false∧σ.mem (1,1)=some [cL .shr h_.vars,cL .shr h_.next])∧NoBox [(1,1)] σ.mem) (fun r_18=>∃ σ:St,out=.exit 0 σ∧(σ.env 1=uP (1,1)∧σ.mem (1,1)=some [cL .shr h_.vars,cL .shr h_.next])∧NoBox [(1,1)] σ.mem) r_18
 refine loopP ({ hd:=[1,3],bx:=[],ex:=[1],rt:=[2] }) I_3 X_4 h_19 (by exact rfl) ?_ ?_ ?_
 ·rw [I_3_]
  exact ⟨by simp [zac,zaa],NoBox.restrict (by intro k hk hb;simp at hk hb;simp [hk,hb])⟩
 ·intro s_1 σ_5 a_2 hI hp
  rw [I_3_] at hI
  obtain ⟨q_7,hn_6⟩:=hI
  try simp [q_7]
  rcases zad hp with ⟨h_8,hp⟩|⟨h_8,hp⟩
  ·try simp at h_8
   obtain ⟨e_9,h_10,hp⟩:=zab hp
   have b_11:=at_lo h_10
   have b_12:=at_hi h_10
   try simp at b_11 b_12
   have c_13:=seg_at' h_10 0 1 (by decide) (ds:=[.sc (.int .i64 e_9)]) rfl
   try simp at c_13
   obtain ⟨y_14,h_15,hp⟩:=zab hp
   have c_16:=zgz h_15
   simp at c_16
   try simp [q_7,h_8,b_11,b_12,c_13,c_16]
   rcases zad hp with ⟨h_17,hp⟩|⟨h_17,hp⟩
   ·try simp at h_17
    cases hp
    try simp [q_7,h_8,h_17]
    refine zag ?_
    rw [I_3_]
    exact ⟨by simp [zac,zaa,q_7,h_8,h_17],NoBox.restrict (by intro k hk hb;simp at hk hb;simp [hk,hb,q_7,h_8,h_17,hn_6 k (by simp [hk,hb])])⟩
   ·try simp at h_17
    cases hp
    try simp [q_7,h_8,h_17]
    refine zal ?_
    rw [X_4_]
    exact ⟨_,rfl,by simp [zac,zaa,q_7,h_8,h_17],NoBox.restrict (by intro k hk hb;simp at hk hb;simp [hk,hb,q_7,h_8,h_17,hn_6 k (by simp [hk,hb])])⟩
  ·try simp at h_8
   cases hp
   try simp [q_7,h_8]
   refine zak ?_
   rw [X_4_]
   exact ⟨_,rfl,by simp [zac,zaa,q_7,h_8],NoBox.restrict (by intro k hk hb;simp at hk hb;simp [hk,hb,q_7,h_8,hn_6 k (by simp [hk,hb])])⟩
 ·intro out hX
  rw [X_4_] at hX
  rcases r_18 with r_18 | r_18
  ·simp only [Sum.elim_inl,Sum.elim_inr] at hX hp
   obtain ⟨σ_20,rfl,q_22,hn_21⟩:=hX
   cases hp
   simp [Goal,FnEnd,q_22]
  ·simp only [Sum.elim_inl,Sum.elim_inr] at hX hp
   obtain ⟨σ_23,rfl,q_25,hn_24⟩:=hX
   try simp [q_25]
   obtain ⟨r_43,h_44,hp⟩:=zab hp
   obtain ⟨I_28,I_28_⟩:=exV fun (s_26:Int) (σ:St)=>(σ.env 1=uP (1,1)∧σ.env 4=uI s_26∧σ.mem (1,1)=some [cL .shr h_.vars,cL .shr h_.next])∧NoBox [(1,1)] σ.mem
   obtain ⟨X_29,X_29_⟩:=exV fun (r_43:(Bool) ⊕ (Unit)) (out:Out)=>Sum.elim (fun r_43=>∃ σ:St,out=.ret σ∧(σ.env 2=uB r_43∧σ.mem (1,1)=some [cL .shr h_.vars,cL .shr h_.next])∧NoBox [(1,1)] σ.mem) (fun r_43=>∃ σ:St,out=.exit 2 σ∧σ.mem (1,1)=some [cL .shr h_.vars,cL .shr h_.next]∧NoBox [(1,1)] σ.mem) r_43
   refine loopP ({ hd:=[1,4],bx:=[],ex:=[],rt:=[2] }) I_28 X_29 h_44 (by exact rfl) ?_ ?_ ?_
   ·rw [I_28_]
    exact ⟨by simp [zac,zaa,q_25],NoBox.restrict (by intro k hk hb;simp at hk hb;simp [hk,hb,q_25,hn_24 k (by simp [hk,hb])])⟩
   ·intro s_26 σ_30 a_27 hI hp
    rw [I_28_] at hI
    obtain ⟨q_32,hn_31⟩:=hI
    try simp [q_32]
    rcases zad hp with ⟨h_33,hp⟩|⟨h_33,hp⟩
    ·try simp at h_33
     obtain ⟨e_34,h_35,hp⟩:=zab hp
     have b_36:=at_lo h_35
     have b_37:=at_hi h_35
     try simp at b_36 b_37
     have c_38:=seg_at' h_35 0 1 (by decide) (ds:=[.sc (.int .i64 e_34)]) rfl
     try simp at c_38
     obtain ⟨y_39,h_40,hp⟩:=zab hp
     have c_41:=zgz h_40
     simp at c_41
     try simp [q_32,h_33,b_36,b_37,c_38,c_41]
     rcases zad hp with ⟨h_42,hp⟩|⟨h_42,hp⟩
     ·try simp at h_42
      cases hp
      try simp [q_32,h_33,h_42]
      refine zag ?_
      rw [I_28_]
      exact ⟨by simp [zac,zaa,q_32,h_33,h_42],NoBox.restrict (by intro k hk hb;simp at hk hb;simp [hk,hb,q_32,h_33,h_42,hn_31 k (by simp [hk,hb])])⟩
     ·try simp at h_42
      cases hp
      try simp [q_32,h_33,h_42]
      refine zal ?_
      rw [X_29_]
      exact ⟨_,rfl,by simp [zac,zaa,q_32,h_33,h_42],NoBox.restrict (by intro k hk hb;simp at hk hb;simp [hk,hb,q_32,h_33,h_42,hn_31 k (by simp [hk,hb])])⟩
    ·try simp at h_33
     cases hp
     try simp [q_32,h_33]
     refine zak ?_
     rw [X_29_]
     exact ⟨_,rfl,by simp [zac,zaa,q_32,h_33],NoBox.restrict (by intro k hk hb;simp at hk hb;simp [hk,hb,q_32,h_33,hn_31 k (by simp [hk,hb])])⟩
   ·intro out hX
    rw [X_29_] at hX
    rcases r_43 with r_43 | r_43
    ·simp only [Sum.elim_inl,Sum.elim_inr] at hX hp
     obtain ⟨σ_45,rfl,q_47,hn_46⟩:=hX
     cases hp
     simp [Goal,FnEnd,q_47]
    ·simp only [Sum.elim_inl,Sum.elim_inr] at hX hp
     obtain ⟨σ_48,rfl,q_50,hn_49⟩:=hX
     cases hp
     simp [Goal,FnEnd,q_50]
theorem pc107:PC Tryz.prog 107 C107:=pc_of (g:=g107) (zah _ g107_s.2.1 ⟨pc62,trivial⟩) (ent Tryz.func107) fun x y h=>w107 h

def C109:List AV→Option AV:=specP (X:=(List Int) × Int × Unit) fun x=>zcu x.1 x.2.1
theorem C109_eq {list n_} {y} (h:zcu list n_=some y):C109 [av .shr list,av .shr n_]=some (Res.res y):=zaf (x:=(list,n_,())) h
def g109:Cfg:={ P:=Tryz.prog,take:=[(109,20),(109,24)],keep:=[((109,3),{ hd:=[0,1,5,6],bx:=[],ex:=[5],rt:=[4] })],gho:=[],ctx:=[] }
@[simp] theorem g109_s:type_of% (cfg_s (g:=g109) rfl):=cfg_s rfl
theorem w109 {list n_} {y} (hp:zcu list n_=some y):∃ m,callo g109 0 109 [av .shr list,av .shr n_] mem0=some (Res.res y,m):=by
 refine st0 [.tmp 4] Tryz.func109 ?_
 unfold zcu at hp
 simp [Tryz.f109]
 obtain ⟨r_17,h_18,hp⟩:=zab hp
 obtain ⟨I_3,I_3_⟩:=exV fun (s_1:(List Int) × Int) (σ:St)=>(σ.env 0=uL .shr list∧σ.env 1=uI n_∧σ.env 5=uL .own s_1.1∧σ.env 6=uI s_1.2)∧σ.mem=mem0
 obtain ⟨X_4,X_4_⟩:=exV fun (r_17:(List Int)) (out:Out)=>∃ σ:St,out=.exit 0 σ∧σ.env 5=uL .own r_17∧σ.mem=mem0
 refine loopP ({ hd:=[0,1,5,6],bx:=[],ex:=[5],rt:=[4] }) I_3 X_4 h_18 (by exact rfl) ?_ ?_ ?_
 ·rw [I_3_]
  exact ⟨by simp [zac,zaa],by simp [zaa]⟩
 ·intro s_1 σ_5 a_2 hI hp
  rw [I_3_] at hI
  obtain ⟨q_7,q_6⟩:=hI
  try simp [q_7,q_6]
  rcases zad hp with ⟨h_8,hp⟩|⟨h_8,hp⟩
  ·try simp at h_8
   obtain ⟨e_9,h_10,hp⟩:=zab hp
   have b_11:=at_lo h_10
   have b_12:=at_hi h_10
   try simp at b_11 b_12
   have c_13:=seg_at' h_10 0 1 (by decide) (ds:=[.sc (.int .i64 e_9)]) rfl
   try simp at c_13
   try simp [q_7,q_6,h_8,b_11,b_12,c_13]
   rcases zad hp with ⟨h_14,hp⟩|⟨h_14,hp⟩
   ·try simp at h_14
    obtain ⟨_,h_15,hp⟩:=zab hp
    have b_16:=zav h_15
    try simp at b_16
    cases hp
    try simp [q_7,q_6,h_8,h_14,b_16]
    refine zag ?_
    rw [I_3_]
    exact ⟨by simp [zac,zaa,q_7,q_6,h_8,h_14,b_16],by simp [zaa,q_7,q_6,h_8,h_14,b_16]⟩
   ·try simp at h_14
    cases hp
    try simp [q_7,q_6,h_8,h_14]
    refine zag ?_
    rw [I_3_]
    exact ⟨by simp [zac,zaa,q_7,q_6,h_8,h_14],by simp [zaa,q_7,q_6,h_8,h_14]⟩
  ·try simp at h_8
   cases hp
   try simp [q_7,q_6,h_8]
   refine zak ?_
   rw [X_4_]
   exact ⟨_,rfl,by simp [zac,zaa,q_7,q_6,h_8],by simp [zaa,q_7,q_6,h_8]⟩
 ·intro out hX
  rw [X_4_] at hX
  obtain ⟨σ_19,rfl,q_21,q_20⟩:=hX
  cases hp
  simp [Goal,FnEnd,q_21,q_20]
theorem pc109:PC Tryz.prog 109 C109:=pc_of (g:=g109) (zah [] rfl trivial) (ent Tryz.func109) fun x y h=>w109 h

def C108:List AV→Option AV:=specP (X:=Bool × Unit) fun x=>zgc x.1
theorem zsn {on} {y} (h:zgc on=some y):C108 [av .shr on]=some (Res.res y):=zaf (x:=(on,())) h
def g108:Cfg:={ P:=Tryz.prog,take:=[],keep:=[],gho:=[],ctx:=[] }
@[simp] theorem g108_s:type_of% (cfg_s (g:=g108) rfl):=cfg_s rfl
theorem w108 {on} {y} (hp:zgc on=some y):∃ m,callo g108 0 108 [av .shr on] mem0=some (Res.res y,m):=by
 refine st0 [.tmp 2] Tryz.func108 ?_
 unfold zgc at hp
 simp [Tryz.f108]
 rcases zad hp with ⟨h_1,hp⟩|⟨h_1,hp⟩
 ·try simp at h_1
  cases hp
  simp [Goal,FnEnd,h_1]
 ·try simp at h_1
  cases hp
  simp [Goal,FnEnd,h_1]
theorem pc108:PC Tryz.prog 108 C108:=pc_of (g:=g108) (zah [] rfl trivial) (ent Tryz.func108) fun x y h=>w108 h

def C110:List AV→Option AV:=specP (X:=(List Int) × Int × Unit) fun x=>zfj x.1 x.2.1
theorem C110_eq {list n_} {y} (h:zfj list n_=some y):C110 [av .shr list,av .shr n_]=some (Res.res y):=zaf (x:=(list,n_,())) h
def g110:Cfg:={ P:=Tryz.prog,take:=[],keep:=[],gho:=[],ctx:=[(109,C109)] }
@[simp] theorem g110_s:type_of% (cfg_s (g:=g110) rfl):=cfg_s rfl
theorem w110 {list n_} {y} (hp:zfj list n_=some y):∃ m,callo g110 0 110 [av .shr list,av .shr n_] mem0=some (Res.res y,m):=by
 refine st0 [.tmp 4] Tryz.func110 ?_
 unfold zfj at hp
 obtain ⟨y_1,h_2,hp⟩:=zab hp
 have c_3:=C109_eq h_2
 simp at c_3
 cases hp
 simp [Tryz.f110,Goal,FnEnd,c_3]
theorem pc110:PC Tryz.prog 110 C110:=pc_of (g:=g110) (zah _ g110_s.2.1 ⟨pc109,trivial⟩) (ent Tryz.func110) fun x y h=>w110 h

def C111:List AV→Option AV:=specP (X:=THeap × Int × Unit) fun x=>zeo x.1 x.2.1
theorem C111_eq {h_ cell} {y} (h:zeo h_ cell=some y):C111 [av .shr h_,av .shr cell]=some (Res.res y):=zaf (x:=(h_,cell,())) h
def g111:Cfg:={ P:=Tryz.prog,take:=[(111,23),(111,32)],keep:=[((111,2),{ hd:=[1,2,5],bx:=[],ex:=[5],rt:=[4] })],gho:=[],ctx:=[(62,C62),(110,C110)] }
@[simp] theorem g111_s:type_of% (cfg_s (g:=g111) rfl):=cfg_s rfl
theorem w111 {h_ cell} {y} (hp:zeo h_ cell=some y):∃ m,callo g111 0 111 [av .shr h_,av .shr cell] mem0=some (Res.res y,m):=by
 refine st0 [.tmp 4] Tryz.func111 ?_
 unfold zeo at hp
 simp [Tryz.f111]
 obtain ⟨r_24,h_25,hp⟩:=zab hp
 obtain ⟨I_3,I_3_⟩:=exV fun (s_1:Int × (List Int)) (σ:St)=>(σ.env 1=uI s_1.1∧σ.env 2=uP (1,2)∧σ.env 5=uL .own s_1.2∧σ.mem (1,2)=some [cL .shr h_.vars,cL .shr h_.next])∧NoBox [(1,2)] σ.mem
 obtain ⟨X_4,X_4_⟩:=exV fun (r_24:((List Int)) ⊕ (Unit)) (out:Out)=>Sum.elim (fun r_24=>∃ σ:St,out=.exit 0 σ∧(σ.env 5=uL .own r_24∧σ.mem (1,2)=some [cL .shr h_.vars,cL .shr h_.next])∧NoBox [(1,2)] σ.mem) (fun r_24=>∃ σ:St,out=.ret σ∧(σ.env 4=.one (.l .own 0 [])∧σ.mem (1,2)=some [cL .shr h_.vars,cL .shr h_.next])∧NoBox [(1,2)] σ.mem) r_24
 refine loopP ({ hd:=[1,2,5],bx:=[],ex:=[5],rt:=[4] }) I_3 X_4 h_25 (by exact rfl) ?_ ?_ ?_
 ·rw [I_3_]
  exact ⟨by simp [zac,zaa],NoBox.restrict (by intro k hk hb;simp at hk hb;simp [hk,hb])⟩
 ·intro s_1 σ_5 a_2 hI hp
  rw [I_3_] at hI
  obtain ⟨q_7,hn_6⟩:=hI
  try simp [q_7]
  rcases zad hp with ⟨h_8,hp⟩|⟨h_8,hp⟩
  ·try simp at h_8
   obtain ⟨y_9,h_10,hp⟩:=zab hp
   have c_11:=C110_eq h_10
   simp at c_11
   try simp [q_7,h_8,c_11]
   rcases zad hp with ⟨h_12,hp⟩|⟨h_12,hp⟩
   ·try simp at h_12
    cases hp
    try simp [q_7,h_8,h_12]
    refine zak ?_
    rw [X_4_]
    exact ⟨_,rfl,by simp [zac,zaa,q_7,h_8,h_12],NoBox.restrict (by intro k hk hb;simp at hk hb;simp [hk,hb,q_7,h_8,h_12,hn_6 k (by simp [hk,hb])])⟩
   ·try simp at h_12
    obtain ⟨y_13,h_14,hp⟩:=zab hp
    have c_15:=zgz h_14
    simp at c_15
    try simp [q_7,h_8,h_12,c_15]
    rcases zad hp with ⟨h_16,hp⟩|⟨h_16,hp⟩
    ·try simp at h_16
     obtain ⟨_,h_17,hp⟩:=zab hp
     have b_18:=zav h_17
     try simp at b_18
     obtain ⟨e_19,h_20,hp⟩:=zab hp
     have b_21:=at_lo h_20
     have b_22:=at_hi h_20
     try simp at b_21 b_22
     have c_23:=seg_at' h_20 0 1 (by decide) (ds:=[.sc (.int .i64 e_19)]) rfl
     try simp at c_23
     cases hp
     try simp [q_7,h_8,h_12,h_16,b_18,b_21,b_22,c_23]
     refine zag ?_
     rw [I_3_]
     exact ⟨by simp [zac,zaa,q_7,h_8,h_12,h_16,b_18,b_21,b_22,c_23],NoBox.restrict (by intro k hk hb;simp at hk hb;simp [hk,hb,q_7,h_8,h_12,h_16,b_18,b_21,b_22,c_23,hn_6 k (by simp [hk,hb])])⟩
    ·try simp at h_16
     cases hp
     try simp [q_7,h_8,h_12,h_16]
     refine zal ?_
     rw [X_4_]
     exact ⟨_,rfl,by simp [zac,zaa,q_7,h_8,h_12,h_16],NoBox.restrict (by intro k hk hb;simp at hk hb;simp [hk,hb,q_7,h_8,h_12,h_16,hn_6 k (by simp [hk,hb])])⟩
  ·try simp at h_8
   cases hp
   try simp [q_7,h_8]
   refine zak ?_
   rw [X_4_]
   exact ⟨_,rfl,by simp [zac,zaa,q_7,h_8],NoBox.restrict (by intro k hk hb;simp at hk hb;simp [hk,hb,q_7,h_8,hn_6 k (by simp [hk,hb])])⟩
 ·intro out hX
  rw [X_4_] at hX
  rcases r_24 with r_24 | r_24
  ·simp only [Sum.elim_inl,Sum.elim_inr] at hX hp
   obtain ⟨σ_26,rfl,q_28,hn_27⟩:=hX
   cases hp
   simp [Goal,FnEnd,q_28]
  ·simp only [Sum.elim_inl,Sum.elim_inr] at hX hp
   obtain ⟨σ_29,rfl,q_31,hn_30⟩:=hX
   cases hp
   simp [Goal,FnEnd,q_31]
theorem pc111:PC Tryz.prog 111 C111:=pc_of (g:=g111) (zah _ g111_s.2.1 ⟨pc62,pc110,trivial⟩) (ent Tryz.func111) fun x y h=>w111 h

def C78:List AV→Option AV:=specP (X:=THeap × Unit) fun x=>zdc x.1
theorem C78_eq {h_} {y} (h:zdc h_=some y):C78 [av .shr h_]=some (Res.res y):=zaf (x:=(h_,())) h
def g78:Cfg:={ P:=Tryz.prog,take:=[(78,49),(78,62),(78,77),(78,78),(78,88),(78,100)],keep:=[((78,6),{ hd:=[1,2,3,4,5],bx:=[6],ex:=[2,4],rt:=[2] }),((78,10),{ hd:=[1,2,3,4,5,6,7],bx:=[],ex:=[1,2,3,4,5,6],rt:=[2] }),((78,16),{ hd:=[1,2,3,4,5,8],bx:=[],ex:=[1,2,3,4,5],rt:=[2] })],gho:=[],ctx:=[(62,C62),(107,C107),(108,C108),(109,C109),(110,C110),(111,C111)] }
@[simp] theorem g78_s:type_of% (cfg_s (g:=g78) rfl):=cfg_s rfl
theorem w78 {h_} {y} (hp:zdc h_=some y):∃ m,callo g78 0 78 [av .shr h_] mem0=some (Res.res y,m):=by
 refine st0 [.cell 2 34] Tryz.func78 ?_
 unfold zdc at hp
 obtain ⟨y_1,h_2,hp⟩:=zab hp
 have c_3:=C107_eq h_2
 simp at c_3
 simp [Tryz.f78,c_3]
 rcases zad hp with ⟨h_4,hp⟩|⟨h_4,hp⟩
 ·try simp at h_4
  try simp [h_4]
  rcases zad hp with ⟨h_5,hp⟩|⟨h_5,hp⟩
  ·try simp at h_5
   cases hp
   simp [Goal,FnEnd,retR,rsrc,RSrc.val,nodupR,nodup,tupPart,h_4,h_5]
  ·try simp at h_5
   obtain ⟨y_6,h_7,hp⟩:=zab hp
   have c_8:=zgz h_7
   simp at c_8
   try simp [h_4,h_5,c_8]
   rcases zad hp with ⟨h_9,hp⟩|⟨h_9,hp⟩
   ·try simp at h_9
    try simp [h_4,h_5,h_9]
    obtain ⟨r_89,h_90,hp⟩:=zab hp
    obtain ⟨I_12,I_12_⟩:=exV fun (s_10:Int × (List TNode) × (List Int)) (σ:St)=>(σ.env 1=uP (1,1)∧σ.env 2=uP (1,2)∧σ.env 3=uI (h_.next.length:Int)∧σ.env 4=uP (1,4)∧σ.env 5=uI s_10.1∧σ.mem (1,1)=some [cL .shr h_.vars,cL .shr h_.next]∧σ.mem (1,2)=some [.l .own 0 [],.l .own 0 []]∧σ.mem (1,4)=some [cL .own s_10.2.1,cL .own s_10.2.2])∧NoBox [(1,1),(1,2),(1,4)] σ.mem
    obtain ⟨X_13,X_13_⟩:=exV fun (r_89:(List TNode) × (List Int)) (out:Out)=>∃ σ:St,out=.exit 0 σ∧(σ.env 2=uP (1,2)∧σ.env 4=uP (1,4)∧σ.mem (1,1)=some [cL .shr h_.vars,cL .shr h_.next]∧σ.mem (1,2)=some [.l .own 0 [],.l .own 0 []]∧σ.mem (1,4)=some [cL .own r_89.1,cL .own r_89.2])∧NoBox [(1,1),(1,2),(1,4)] σ.mem
    refine loopP ({ hd:=[1,2,3,4,5],bx:=[6],ex:=[2,4],rt:=[2] }) I_12 X_13 h_90 (by exact rfl) ?_ ?_ ?_
    ·rw [I_12_]
     exact ⟨by simp [zac,zaa,h_4,h_5,h_9],NoBox.restrict (by intro k hk hb;simp at hk hb;simp [hk,hb,h_4,h_5,h_9])⟩
    ·intro s_10 σ_14 a_11 hI hp
     rw [I_12_] at hI
     obtain ⟨q_16,hn_15⟩:=hI
     try simp [h_4,h_5,h_9,q_16]
     rcases zad hp with ⟨h_17,hp⟩|⟨h_17,hp⟩
     ·try simp at h_17
      obtain ⟨y_18,h_19,hp⟩:=zab hp
      have c_20:=C109_eq h_19
      simp at c_20
      obtain ⟨y_21,h_22,hp⟩:=zab hp
      have c_23:=zsn h_22
      simp at c_23
      have n_24:=hn_15 (1,6) (by simp)
      try simp [h_4,h_5,h_9,q_16,h_17,c_20,c_23,n_24]
      obtain ⟨r_59,h_60,hp⟩:=zab hp
      obtain ⟨I_27,I_27_⟩:=exV fun (s_25:Int × (List Int) × (List Int)) (σ:St)=>(σ.env 1=uP (1,1)∧σ.env 2=uP (1,2)∧σ.env 3=uI (h_.next.length:Int)∧σ.env 4=uP (1,4)∧σ.env 5=uI s_10.1∧σ.env 6=uP (1,6)∧σ.env 7=uI s_25.1∧σ.mem (1,1)=some [cL .shr h_.vars,cL .shr h_.next]∧σ.mem (1,2)=some [.l .own 0 [],.l .own 0 []]∧σ.mem (1,4)=some [cL .own s_10.2.1,cL .own s_10.2.2]∧σ.mem (1,6)=some [cL .own s_25.2.1,cL .own s_25.2.2,cI y_21,cI 0])∧NoBox [(1,1),(1,2),(1,4),(1,6)] σ.mem
      obtain ⟨X_28,X_28_⟩:=exV fun (r_59:(List Int) × (List Int)) (out:Out)=>∃ σ:St,out=.exit 2 σ∧(σ.env 1=uP (1,1)∧σ.env 2=uP (1,2)∧σ.env 3=uI (h_.next.length:Int)∧σ.env 4=uP (1,4)∧σ.env 5=uI s_10.1∧σ.env 6=uP (1,6)∧σ.mem (1,1)=some [cL .shr h_.vars,cL .shr h_.next]∧σ.mem (1,2)=some [.l .own 0 [],.l .own 0 []]∧σ.mem (1,4)=some [cL .own s_10.2.1,cL .own s_10.2.2]∧σ.mem (1,6)=some [cL .own r_59.1,cL .own r_59.2,cI y_21,cI 0])∧NoBox [(1,1),(1,2),(1,4),(1,6)] σ.mem
      refine loopP ({ hd:=[1,2,3,4,5,6,7],bx:=[],ex:=[1,2,3,4,5,6],rt:=[2] }) I_27 X_28 h_60 (by exact rfl) ?_ ?_ ?_
      ·rw [I_27_]
       exact ⟨by simp [zac,zaa,h_4,h_5,h_9,q_16,h_17],NoBox.restrict (by intro k hk hb;simp at hk hb;simp [hk,hb,h_4,h_5,h_9,q_16,h_17,hn_15 k (by simp [hk,hb])])⟩
      ·intro s_25 σ_29 a_26 hI hp
       rw [I_27_] at hI
       obtain ⟨q_31,hn_30⟩:=hI
       try simp [h_4,h_5,h_9,h_17,q_31]
       rcases zad hp with ⟨h_32,hp⟩|⟨h_32,hp⟩
       ·try simp at h_32
        obtain ⟨e_33,h_34,hp⟩:=zab hp
        have b_35:=at_lo h_34
        have b_36:=at_hi h_34
        try simp at b_35 b_36
        have c_37:=seg_at' h_34 0 1 (by decide) (ds:=[.sc (.int .i64 e_33)]) rfl
        try simp at c_37
        obtain ⟨y_38,h_39,hp⟩:=zab hp
        have c_40:=zsn h_39
        simp at c_40
        obtain ⟨_,h_41,hp⟩:=zab hp
        have b_42:=zav h_41
        try simp at b_42
        obtain ⟨e_43,h_44,hp⟩:=zab hp
        cases Option.some.inj (h_34.symm.trans h_44)
        have b_45:=at_lo h_34
        have b_46:=at_hi h_34
        try simp at b_45 b_46
        have c_47:=seg_at' h_34 0 1 (by decide) (ds:=[.sc (.int .i64 e_33)]) rfl
        try simp at c_47
        obtain ⟨y_48,h_49,hp⟩:=zab hp
        have c_50:=C111_eq h_49
        simp at c_50
        obtain ⟨y_51,h_52,hp⟩:=zab hp
        have c_53:=C110_eq h_52
        simp at c_53
        obtain ⟨y_54,h_55,hp⟩:=zab hp
        have c_56:=zsn h_55
        simp at c_56
        obtain ⟨_,h_57,hp⟩:=zab hp
        have b_58:=zav h_57
        try simp at b_58
        cases hp
        try simp [h_4,h_5,h_9,h_17,q_31,h_32,b_35,b_36,c_37,c_40,b_42,b_45,b_46,c_47,c_50,c_53,c_56,b_58]
        refine zag ?_
        rw [I_27_]
        exact ⟨by simp [zac,zaa,h_4,h_5,h_9,h_17,q_31,h_32,b_35,b_36,c_37,c_40,b_42,b_45,b_46,c_47,c_50,c_53,c_56,b_58],NoBox.restrict (by intro k hk hb;simp at hk hb;simp [hk,hb,h_4,h_5,h_9,h_17,q_31,h_32,b_35,b_36,c_37,c_40,b_42,b_45,b_46,c_47,c_50,c_53,c_56,b_58,hn_30 k (by simp [hk,hb])])⟩
       ·try simp at h_32
        cases hp
        try simp [h_4,h_5,h_9,h_17,q_31,h_32]
        refine zak ?_
        rw [X_28_]
        exact ⟨_,rfl,by simp [zac,zaa,h_4,h_5,h_9,h_17,q_31,h_32],NoBox.restrict (by intro k hk hb;simp at hk hb;simp [hk,hb,h_4,h_5,h_9,h_17,q_31,h_32,hn_30 k (by simp [hk,hb])])⟩
      ·intro out hX
       rw [X_28_] at hX
       obtain ⟨σ_61,rfl,q_63,hn_62⟩:=hX
       obtain ⟨_,h_64,hp⟩:=zab hp
       have b_65:=zav h_64
       try simp at b_65
       try simp [h_4,h_5,h_9,h_17,q_63,b_65]
       obtain ⟨r_84,h_85,hp⟩:=zab hp
       obtain ⟨I_68,I_68_⟩:=exV fun (s_66:Int × (List Int)) (σ:St)=>(σ.env 1=uP (1,1)∧σ.env 2=uP (1,2)∧σ.env 3=uI (h_.next.length:Int)∧σ.env 4=uP (1,4)∧σ.env 5=uI s_10.1∧σ.env 8=uI s_66.1∧σ.mem (1,1)=some [cL .shr h_.vars,cL .shr h_.next]∧σ.mem (1,2)=some [.l .own 0 [],.l .own 0 []]∧σ.mem (1,4)=some [cL .own (s_10.2.1 ++ [(⟨r_59.1,r_59.2,y_21,0⟩:TNode)]),cL .own s_66.2]∧σ.mem (1,6)=some [.dead,.dead,.dead,.dead])∧NoBox [(1,1),(1,2),(1,4),(1,6)] σ.mem
       obtain ⟨X_69,X_69_⟩:=exV fun (r_84:(List Int)) (out:Out)=>∃ σ:St,out=.exit 4 σ∧(σ.env 1=uP (1,1)∧σ.env 2=uP (1,2)∧σ.env 3=uI (h_.next.length:Int)∧σ.env 4=uP (1,4)∧σ.env 5=uI s_10.1∧σ.mem (1,1)=some [cL .shr h_.vars,cL .shr h_.next]∧σ.mem (1,2)=some [.l .own 0 [],.l .own 0 []]∧σ.mem (1,4)=some [cL .own (s_10.2.1 ++ [(⟨r_59.1,r_59.2,y_21,0⟩:TNode)]),cL .own r_84]∧σ.mem (1,6)=some [.dead,.dead,.dead,.dead])∧NoBox [(1,1),(1,2),(1,4),(1,6)] σ.mem
       refine loopP ({ hd:=[1,2,3,4,5,8],bx:=[],ex:=[1,2,3,4,5],rt:=[2] }) I_68 X_69 h_85 (by exact rfl) ?_ ?_ ?_
       ·rw [I_68_]
        exact ⟨by simp [zac,zaa,h_4,h_5,h_9,h_17,q_63],NoBox.restrict (by intro k hk hb;simp at hk hb;simp [hk,hb,h_4,h_5,h_9,h_17,q_63,hn_62 k (by simp [hk,hb])])⟩
       ·intro s_66 σ_70 a_67 hI hp
        rw [I_68_] at hI
        obtain ⟨q_72,hn_71⟩:=hI
        try simp [h_4,h_5,h_9,h_17,q_72]
        rcases zad hp with ⟨h_73,hp⟩|⟨h_73,hp⟩
        ·try simp at h_73
         obtain ⟨e_74,h_75,hp⟩:=zab hp
         have b_76:=at_lo h_75
         have b_77:=at_hi h_75
         try simp at b_76 b_77
         have c_78:=seg_at' h_75 0 1 (by decide) (ds:=[.sc (.int .i64 e_74)]) rfl
         try simp at c_78
         obtain ⟨y_79,h_80,hp⟩:=zab hp
         have c_81:=zsn h_80
         simp at c_81
         obtain ⟨_,h_82,hp⟩:=zab hp
         have b_83:=zav h_82
         try simp at b_83
         cases hp
         try simp [h_4,h_5,h_9,h_17,q_72,h_73,b_76,b_77,c_78,c_81,b_83]
         refine zag ?_
         rw [I_68_]
         exact ⟨by simp [zac,zaa,h_4,h_5,h_9,h_17,q_72,h_73,b_76,b_77,c_78,c_81,b_83],NoBox.restrict (by intro k hk hb;simp at hk hb;simp [hk,hb,h_4,h_5,h_9,h_17,q_72,h_73,b_76,b_77,c_78,c_81,b_83,hn_71 k (by simp [hk,hb])])⟩
        ·try simp at h_73
         cases hp
         try simp [h_4,h_5,h_9,h_17,q_72,h_73]
         refine zak ?_
         rw [X_69_]
         exact ⟨_,rfl,by simp [zac,zaa,h_4,h_5,h_9,h_17,q_72,h_73],NoBox.restrict (by intro k hk hb;simp at hk hb;simp [hk,hb,h_4,h_5,h_9,h_17,q_72,h_73,hn_71 k (by simp [hk,hb])])⟩
       ·intro out hX
        rw [X_69_] at hX
        obtain ⟨σ_86,rfl,q_88,hn_87⟩:=hX
        cases hp
        try simp [h_4,h_5,h_9,h_17,q_88]
        refine zag ?_
        rw [I_12_]
        exact ⟨by simp [zac,zaa,h_4,h_5,h_9,h_17,q_88],NoBox.restrict (by intro k hk hb;simp at hk hb;simp [hk,hb,h_4,h_5,h_9,h_17,q_88,hn_87 k (by simp [hk,hb])])⟩
     ·try simp at h_17
      cases hp
      try simp [h_4,h_5,h_9,q_16,h_17]
      refine zak ?_
      rw [X_13_]
      exact ⟨_,rfl,by simp [zac,zaa,h_4,h_5,h_9,q_16,h_17],NoBox.restrict (by intro k hk hb;simp at hk hb;simp [hk,hb,h_4,h_5,h_9,q_16,h_17,hn_15 k (by simp [hk,hb])])⟩
    ·intro out hX
     rw [X_13_] at hX
     obtain ⟨σ_91,rfl,q_93,hn_92⟩:=hX
     cases hp
     simp [Goal,FnEnd,retR,rsrc,RSrc.val,nodupR,nodup,tupPart,h_4,h_5,h_9,q_93]
   ·try simp at h_9
    cases hp
    simp [Goal,FnEnd,retR,rsrc,RSrc.val,nodupR,nodup,tupPart,h_4,h_5,h_9]
 ·try simp at h_4
  cases hp
  simp [Goal,FnEnd,retR,rsrc,RSrc.val,nodupR,nodup,tupPart,h_4]
theorem pc78:PC Tryz.prog 78 C78:=pc_of (g:=g78) (zah _ g78_s.2.1 ⟨pc62,pc107,pc108,pc109,pc110,pc111,trivial⟩) (ent Tryz.func78) fun x y h=>w78 h

def C52:List AV→Option AV:=specP (X:=THeap × Unit) fun x=>zcb x.1
theorem C52_eq {h_} {y} (h:zcb h_=some y):C52 [av .shr h_]=some (Res.res y):=zaf (x:=(h_,())) h
def g52:Cfg:={ P:=Tryz.prog,take:=[],keep:=[],gho:=[],ctx:=[(30,C30),(78,C78)] }
@[simp] theorem g52_s:type_of% (cfg_s (g:=g52) rfl):=cfg_s rfl
theorem w52 {h_} {y} (hp:zcb h_=some y):∃ m,callo g52 0 52 [av .shr h_] mem0=some (Res.res y,m):=by
 refine st0 [.cell 2 34] Tryz.func52 ?_
 unfold zcb at hp
 obtain ⟨y_1,h_2,hp⟩:=zab hp
 have c_3:=C78_eq h_2
 simp at c_3
 obtain ⟨y_4,h_5,hp⟩:=zab hp
 have c_6:=C30_eq h_5
 simp at c_6
 cases hp
 simp [Tryz.f52,Goal,FnEnd,retR,rsrc,RSrc.val,nodupR,nodup,tupPart,c_3,c_6]
theorem pc52:PC Tryz.prog 52 C52:=pc_of (g:=g52) (zah _ g52_s.2.1 ⟨pc30,pc78,trivial⟩) (ent Tryz.func52) fun x y h=>w52 h

def C23:List AV→Option AV:=specP (X:=(List THeap) × Unit) fun x=>zde x.1
theorem C23_eq {list} {y} (h:zde list=some y):C23 [av .shr list]=some (Res.res y):=zaf (x:=(list,())) h
def g23:Cfg:={ P:=Tryz.prog,take:=[(23,19)],keep:=[((23,3),{ hd:=[0,3,4],bx:=[],ex:=[3],rt:=[2] })],gho:=[],ctx:=[(9,C9),(52,C52)] }
@[simp] theorem g23_s:type_of% (cfg_s (g:=g23) rfl):=cfg_s rfl
theorem w23 {list} {y} (hp:zde list=some y):∃ m,callo g23 0 23 [av .shr list] mem0=some (Res.res y,m):=by
 refine st0 [.tmp 2] Tryz.func23 ?_
 unfold zde at hp
 simp [Tryz.f23]
 obtain ⟨r_20,h_21,hp⟩:=zab hp
 obtain ⟨I_3,I_3_⟩:=exV fun (s_1:(List TStructure) × Int) (σ:St)=>(σ.env 0=uL .shr list∧σ.env 3=uL .own s_1.1∧σ.env 4=uI s_1.2)∧σ.mem=mem0
 obtain ⟨X_4,X_4_⟩:=exV fun (r_20:(List TStructure)) (out:Out)=>∃ σ:St,out=.exit 0 σ∧σ.env 3=uL .own r_20∧σ.mem=mem0
 refine loopP ({ hd:=[0,3,4],bx:=[],ex:=[3],rt:=[2] }) I_3 X_4 h_21 (by exact rfl) ?_ ?_ ?_
 ·rw [I_3_]
  exact ⟨by simp [zac,zaa],by simp [zaa]⟩
 ·intro s_1 σ_5 a_2 hI hp
  rw [I_3_] at hI
  obtain ⟨q_7,q_6⟩:=hI
  try simp [q_7,q_6]
  rcases zad hp with ⟨h_8,hp⟩|⟨h_8,hp⟩
  ·try simp at h_8
   obtain ⟨e_9,h_10,hp⟩:=zab hp
   have b_11:=at_lo h_10
   have b_12:=at_hi h_10
   try simp at b_11 b_12
   have c_13:=seg_at' h_10 0 2 (by decide) (ds:=[.sl e_9.vars.length (encL e_9.vars),.sl e_9.next.length (encL e_9.next)]) rfl
   try simp at c_13
   obtain ⟨y_14,h_15,hp⟩:=zab hp
   have c_16:=C52_eq h_15
   simp at c_16
   obtain ⟨y_17,h_18,hp⟩:=zab hp
   have c_19:=C9_eq h_18
   simp at c_19
   cases hp
   try simp [q_7,q_6,h_8,b_11,b_12,c_13,c_16,c_19]
   refine zag ?_
   rw [I_3_]
   exact ⟨by simp [zac,zaa,q_7,q_6,h_8,b_11,b_12,c_13,c_16,c_19],by simp [zaa,q_7,q_6,h_8,b_11,b_12,c_13,c_16,c_19]⟩
  ·try simp at h_8
   cases hp
   try simp [q_7,q_6,h_8]
   refine zak ?_
   rw [X_4_]
   exact ⟨_,rfl,by simp [zac,zaa,q_7,q_6,h_8],by simp [zaa,q_7,q_6,h_8]⟩
 ·intro out hX
  rw [X_4_] at hX
  obtain ⟨σ_22,rfl,q_24,q_23⟩:=hX
  cases hp
  simp [Goal,FnEnd,q_24,q_23]
theorem pc23:PC Tryz.prog 23 C23:=pc_of (g:=g23) (zah _ g23_s.2.1 ⟨pc9,pc52,trivial⟩) (ent Tryz.func23) fun x y h=>w23 h

def C145:List AV→Option AV:=specP (X:=THeap × Int × Unit) fun x=>zbc x.1 x.2.1
theorem C145_eq {h_ n_} {y} (h:zbc h_ n_=some y):C145 [av .shr h_,av .shr n_]=some (Res.res y):=zaf (x:=(h_,n_,())) h
def g145:Cfg:={ P:=Tryz.prog,take:=[],keep:=[],gho:=[],ctx:=[(88,C88)] }
@[simp] theorem g145_s:type_of% (cfg_s (g:=g145) rfl):=cfg_s rfl
theorem w145 {h_ n_} {y} (hp:zbc h_ n_=some y):∃ m,callo g145 0 145 [av .shr h_,av .shr n_] mem0=some (Res.res y,m):=by
 refine st0 [.tmp 4] Tryz.func145 ?_
 unfold zbc at hp
 obtain ⟨y_1,h_2,hp⟩:=zab hp
 have c_3:=zja h_2
 simp at c_3
 cases hp
 simp [Tryz.f145,Goal,FnEnd,c_3]
theorem pc145:PC Tryz.prog 145 C145:=pc_of (g:=g145) (zah _ g145_s.2.1 ⟨pc88,trivial⟩) (ent Tryz.func145) fun x y h=>w145 h

abbrev G144 (g:Cfg):Prop:=Has Tryz.prog g 144 Tryz.f144 [] [] [(145,C145)] []
theorem wI144 {g:Cfg} (G:G144 g) {d:Nat} {mem:Mem} (hT:Tight d mem) {K_1:Key} {n_:Int} {c0:THeap} {mk_1:Md} (hk_1:K_1.1≤d) (hb_1:mem K_1=some [cL mk_1 c0.vars,cL mk_1 c0.next]) {y} (hp:zbk n_ c0=some y):callo g d 144 [av .shr n_,.one (.ptr K_1 0)] mem=some (Res.res y,mem):=by
 have gP:=G.P;have gt:=G.tk;have gr:=G.ro;have gg:=G.gh
 have c_145:=G.cs (145,C145) (by simp)
 have hT2:memKill (fun k=>decide (d < k.1)) mem=mem:=hT
 have nk_1:∀ t,(K_1=(d+1,t))=False:=fun t=>by simp;intro h;rw [h] at hk_1;simp at hk_1;omega
 refine zgr (Tryz.f144.body.getD .skip) [.tmp 3] G Tryz.func144 (by kernel_rfl) (by simp [Tryz.ntmps144]) rfl ?_
 unfold zbk at hp
 simp [Tryz.f144,gP,gt,gr,gg,hb_1,nk_1]
 rcases zad hp with ⟨h_1,hp⟩|⟨h_1,hp⟩
 ·try simp at h_1
  obtain ⟨y_2,h_3,hp⟩:=zab hp
  have c_4:=C145_eq h_3
  simp at c_4
  cases hp
  simp [Goal,FnEndI,zbg,gP,gt,gr,gg,c_145,hb_1,nk_1,h_1,c_4,hT2]
 ·try simp at h_1
  cases hp
  simp [Goal,FnEndI,zbg,gP,gt,gr,gg,c_145,hb_1,nk_1,h_1,hT2]
end Go.Proofs


set_option maxHeartbeats 4000000
set_option maxRecDepth 100000
namespace Go.Proofs
open Go.Ev
def C112:List AV→Option AV:=specP (X:=THeap × Unit) fun x=>zcd x.1
theorem C112_eq {h_} {y} (h:zcd h_=some y):C112 [av .shr h_]=some (Res.res y):=zaf (x:=(h_,())) h
def g112:Cfg:={ P:=Tryz.prog,take:=[],keep:=[((148,2),{ hd:=[0,1,7,8],bx:=[],ex:=[],rt:=[4] })],gho:=[],ctx:=[(143,C143),(145,C145)] }
@[simp] theorem g112_s:type_of% (cfg_s (g:=g112) rfl):=cfg_s rfl
theorem w112 {h_} {y} (hp:zcd h_=some y):∃ m,callo g112 0 112 [av .shr h_] mem0=some (Res.res y,m):=by
 have G_124:G124 g112:=⟨rfl,by kernel_rfl,rfl,fun t=>by simp,noAway (fun t=>by simp) (by simp) (fun t=>by simp),by simp [lookN],fun i=>by simp [lookK],by simp [g112,lookK],by simp⟩
 have G_148:G148 g112:=⟨rfl,by kernel_rfl,rfl,fun t=>by simp,noAway (fun t=>by simp) (by simp) (fun t=>by simp),by simp [lookN],fun i=>by simp [lookK],by simp [g112,lookK],by simp⟩
 have G_144:G144 g112:=⟨rfl,by kernel_rfl,rfl,fun t=>by simp,noAway (fun t=>by simp) (by simp) (fun t=>by simp),by simp [lookN],fun i=>by simp [lookK],by simp [g112,lookK],by simp⟩
 refine st0 [.tmp 2] Tryz.func112 ?_
 unfold zcd at hp
 obtain ⟨y_1,h_2,hp⟩:=zab hp
 have c_3:=C143_eq h_2
 simp at c_3
 obtain ⟨y_4,h_5,hp⟩:=zab hp
 simp [Tryz.f112,c_3]
 refine zfh [av .bor y_1,.one (.fn 144 [((1,1),0)])] (Res.res y_4) (by simp) (wI124 G_124 G_148 (by repeat (first | exact zeg _ | exact hT.up | exact hT | (simp only [true_and];done) | refine Tight.upd ?_ (by simp) (by simp) | refine Tight.killB ?_ | refine zez ?_)) (.inr rfl) (by simp) (clo1 (p:=fun x0=>zbk x0 h_) fun d2 mem2 m0 x0 r2 hd2 ha2 hT2 hm0 hr2=>wI144 (mk_1:=.shr) G_144 hT2 (show 1≤d2 from hd2) ((ha2 _ (Nat.le_refl _)).trans (by simp [c_3])) hr2) h_5) ?_
 cases hp
 simp [Goal,FnEnd]
theorem pc112:PC Tryz.prog 112 C112:=pc_of (g:=g112) (zah _ g112_s.2.1 ⟨pc143,pc145,trivial⟩) (ent Tryz.func112) fun x y h=>w112 h

def C114:List AV→Option AV:=specP (X:=(List Int) × Int × Unit) fun x=>zeu x.1 x.2.1
theorem C114_eq {list n_} {y} (h:zeu list n_=some y):C114 [av .shr list,av .shr n_]=some (Res.res y):=zaf (x:=(list,n_,())) h
def g114:Cfg:={ P:=Tryz.prog,take:=[(114,19),(114,24)],keep:=[((114,3),{ hd:=[1,5,9,10,11],bx:=[],ex:=[5],rt:=[4] })],gho:=[],ctx:=[] }
@[simp] theorem g114_s:type_of% (cfg_s (g:=g114) rfl):=cfg_s rfl
theorem w114 {list n_} {y} (hp:zeu list n_=some y):∃ m,callo g114 0 114 [av .shr list,av .shr n_] mem0=some (Res.res y,m):=by
 refine st0 [.tmp 4] Tryz.func114 ?_
 unfold zeu at hp
 simp [Tryz.f114]
 obtain ⟨r_17,h_18,hp⟩:=zab hp
 obtain ⟨I_3,I_3_⟩:=exV fun (s_1:(List Int) × Int) (σ:St)=>(σ.env 1=uI n_∧σ.env 5=uL .own s_1.1∧σ.env 9=uL .shr list∧σ.env 10=uI (list.length:Int)∧σ.env 11=uI s_1.2)∧σ.mem=mem0
 obtain ⟨X_4,X_4_⟩:=exV fun (r_17:(List Int)) (out:Out)=>∃ σ:St,out=.exit 0 σ∧σ.env 5=uL .own r_17∧σ.mem=mem0
 refine loopP ({ hd:=[1,5,9,10,11],bx:=[],ex:=[5],rt:=[4] }) I_3 X_4 h_18 (by exact rfl) ?_ ?_ ?_
 ·rw [I_3_]
  exact ⟨by simp [zac,zaa],by simp [zaa]⟩
 ·intro s_1 σ_5 a_2 hI hp
  rw [I_3_] at hI
  obtain ⟨q_7,q_6⟩:=hI
  try simp [q_7,q_6]
  rcases zad hp with ⟨h_8,hp⟩|⟨h_8,hp⟩
  ·try simp at h_8
   obtain ⟨e_9,h_10,hp⟩:=zab hp
   have b_11:=at_lo h_10
   have b_12:=at_hi h_10
   try simp at b_11 b_12
   have c_13:=seg_at' h_10 0 1 (by decide) (ds:=[.sc (.int .i64 e_9)]) rfl
   try simp at c_13
   try simp [q_7,q_6,h_8,b_11,b_12,c_13]
   rcases zad hp with ⟨h_14,hp⟩|⟨h_14,hp⟩
   ·try simp at h_14
    obtain ⟨_,h_15,hp⟩:=zab hp
    have b_16:=zav h_15
    try simp at b_16
    cases hp
    try simp [q_7,q_6,h_8,h_14,b_16]
    refine zag ?_
    rw [I_3_]
    exact ⟨by simp [zac,zaa,q_7,q_6,h_8,h_14,b_16],by simp [zaa,q_7,q_6,h_8,h_14,b_16]⟩
   ·try simp at h_14
    cases hp
    try simp [q_7,q_6,h_8,h_14]
    refine zag ?_
    rw [I_3_]
    exact ⟨by simp [zac,zaa,q_7,q_6,h_8,h_14],by simp [zaa,q_7,q_6,h_8,h_14]⟩
  ·try simp at h_8
   cases hp
   try simp [q_7,q_6,h_8]
   refine zak ?_
   rw [X_4_]
   exact ⟨_,rfl,by simp [zac,zaa,q_7,q_6,h_8],by simp [zaa,q_7,q_6,h_8]⟩
 ·intro out hX
  rw [X_4_] at hX
  obtain ⟨σ_19,rfl,q_21,q_20⟩:=hX
  cases hp
  simp [Goal,FnEnd,q_21,q_20]
theorem pc114:PC Tryz.prog 114 C114:=pc_of (g:=g114) (zah [] rfl trivial) (ent Tryz.func114) fun x y h=>w114 h

def C113:List AV→Option AV:=specP (X:=Bool × Unit) fun x=>zdy x.1
theorem zsm {b_} {y} (h:zdy b_=some y):C113 [av .shr b_]=some (Res.res y):=zaf (x:=(b_,())) h
def g113:Cfg:={ P:=Tryz.prog,take:=[],keep:=[],gho:=[],ctx:=[] }
@[simp] theorem g113_s:type_of% (cfg_s (g:=g113) rfl):=cfg_s rfl
theorem w113 {b_} {y} (hp:zdy b_=some y):∃ m,callo g113 0 113 [av .shr b_] mem0=some (Res.res y,m):=by
 refine st0 [.tmp 2] Tryz.func113 ?_
 unfold zdy at hp
 simp [Tryz.f113]
 rcases zad hp with ⟨h_1,hp⟩|⟨h_1,hp⟩
 ·try simp at h_1
  cases hp
  simp [Goal,FnEnd,h_1]
 ·try simp at h_1
  cases hp
  simp [Goal,FnEnd,h_1]
theorem pc113:PC Tryz.prog 113 C113:=pc_of (g:=g113) (zah [] rfl trivial) (ent Tryz.func113) fun x y h=>w113 h

def C146:List AV→Option AV:=specP (X:=(List Int) × Int × Unit) fun x=>zdf x.1 x.2.1
theorem C146_eq {s v} {y} (h:zdf s v=some y):C146 [av .shr s,av .shr v]=some (Res.res y):=zaf (x:=(s,v,())) h
def g146:Cfg:={ P:=Tryz.prog,take:=[],keep:=[((146,2),{ hd:=[0,1,7,8],bx:=[],ex:=[],rt:=[4] })],gho:=[],ctx:=[] }
@[simp] theorem g146_s:type_of% (cfg_s (g:=g146) rfl):=cfg_s rfl
theorem w146 {s v} {y} (hp:zdf s v=some y):∃ m,callo g146 0 146 [av .shr s,av .shr v] mem0=some (Res.res y,m):=by
 refine st0 [.tmp 4] Tryz.func146 ?_
 unfold zdf at hp
 simp [Tryz.f146]
 obtain ⟨r_15,h_16,hp⟩:=zab hp
 obtain ⟨I_3,I_3_⟩:=exV fun (s_1:Int) (σ:St)=>(σ.env 0=uL .shr s∧σ.env 1=uI v∧σ.env 7=uI (s.length:Int)∧σ.env 8=uI s_1)∧σ.mem=mem0
 obtain ⟨X_4,X_4_⟩:=exV fun (r_15:(Int) ⊕ (Unit)) (out:Out)=>Sum.elim (fun r_15=>∃ σ:St,out=.ret σ∧σ.env 4=uI r_15∧σ.mem=mem0) (fun r_15=>∃ σ:St,out=.exit 0 σ∧σ.mem=mem0) r_15
 refine loopP ({ hd:=[0,1,7,8],bx:=[],ex:=[],rt:=[4] }) I_3 X_4 h_16 (by exact rfl) ?_ ?_ ?_
 ·rw [I_3_]
  exact ⟨by simp [zac,zaa],by simp [zaa]⟩
 ·intro s_1 σ_5 a_2 hI hp
  rw [I_3_] at hI
  obtain ⟨q_7,q_6⟩:=hI
  try simp [q_7,q_6]
  rcases zad hp with ⟨h_8,hp⟩|⟨h_8,hp⟩
  ·try simp at h_8
   obtain ⟨e_9,h_10,hp⟩:=zab hp
   have b_11:=at_lo h_10
   have b_12:=at_hi h_10
   try simp at b_11 b_12
   have c_13:=seg_at' h_10 0 1 (by decide) (ds:=[.sc (.int .i64 e_9)]) rfl
   try simp at c_13
   try simp [q_7,q_6,h_8,b_11,b_12,c_13]
   rcases zad hp with ⟨h_14,hp⟩|⟨h_14,hp⟩
   ·try simp at h_14
    cases hp
    try simp [q_7,q_6,h_8,h_14]
    refine zal ?_
    rw [X_4_]
    exact ⟨_,rfl,by simp [zac,zaa,q_7,q_6,h_8,h_14],by simp [zaa,q_7,q_6,h_8,h_14]⟩
   ·try simp at h_14
    cases hp
    try simp [q_7,q_6,h_8,h_14]
    refine zag ?_
    rw [I_3_]
    exact ⟨by simp [zac,zaa,q_7,q_6,h_8,h_14],by simp [zaa,q_7,q_6,h_8,h_14]⟩
  ·try simp at h_8
   cases hp
   try simp [q_7,q_6,h_8]
   refine zak ?_
   rw [X_4_]
   exact ⟨_,rfl,by simp [zaa,q_7,q_6,h_8]⟩
 ·intro out hX
  rw [X_4_] at hX
  rcases r_15 with r_15 | r_15
  ·simp only [Sum.elim_inl,Sum.elim_inr] at hX hp
   obtain ⟨σ_17,rfl,q_19,q_18⟩:=hX
   cases hp
   simp [Goal,FnEnd,q_19,q_18]
  ·simp only [Sum.elim_inl,Sum.elim_inr] at hX hp
   obtain ⟨σ_20,rfl,q_21⟩:=hX
   cases hp
   simp [Goal,FnEnd,q_21]
theorem pc146:PC Tryz.prog 146 C146:=pc_of (g:=g146) (zah [] rfl trivial) (ent Tryz.func146) fun x y h=>w146 h

def C115:List AV→Option AV:=specP (X:=(List Int) × Int × Unit) fun x=>zaq x.1 x.2.1
theorem C115_eq {s v} {y} (h:zaq s v=some y):C115 [av .shr s,av .shr v]=some (Res.res y):=zaf (x:=(s,v,())) h
def g115:Cfg:={ P:=Tryz.prog,take:=[],keep:=[],gho:=[],ctx:=[(146,C146)] }
@[simp] theorem g115_s:type_of% (cfg_s (g:=g115) rfl):=cfg_s rfl
theorem w115 {s v} {y} (hp:zaq s v=some y):∃ m,callo g115 0 115 [av .shr s,av .shr v] mem0=some (Res.res y,m):=by
 refine st0 [.tmp 4] Tryz.func115 ?_
 unfold zaq at hp
 obtain ⟨y_1,h_2,hp⟩:=zab hp
 have c_3:=C146_eq h_2
 simp at c_3
 cases hp
 simp [Tryz.f115,Goal,FnEnd,c_3]
theorem pc115:PC Tryz.prog 115 C115:=pc_of (g:=g115) (zah _ g115_s.2.1 ⟨pc146,trivial⟩) (ent Tryz.func115) fun x y h=>w115 h

def C116:List AV→Option AV:=specP (X:=THeap × Int × Unit) fun x=>zer x.1 x.2.1
theorem C116_eq {h_ cell} {y} (h:zer h_ cell=some y):C116 [av .shr h_,av .shr cell]=some (Res.res y):=zaf (x:=(h_,cell,())) h
def g116:Cfg:={ P:=Tryz.prog,take:=[(116,27),(116,31)],keep:=[((116,3),{ hd:=[1,2,5,6],bx:=[],ex:=[5],rt:=[4] })],gho:=[],ctx:=[(115,C115),(145,C145)] }
@[simp] theorem g116_s:type_of% (cfg_s (g:=g116) rfl):=cfg_s rfl
theorem w116 {h_ cell} {y} (hp:zer h_ cell=some y):∃ m,callo g116 0 116 [av .shr h_,av .shr cell] mem0=some (Res.res y,m):=by
 refine st0 [.tmp 4] Tryz.func116 ?_
 unfold zer at hp
 simp [Tryz.f116]
 obtain ⟨r_40,h_41,hp⟩:=zab hp
 obtain ⟨I_3,I_3_⟩:=exV fun (s_1:(List Int) × Int) (σ:St)=>(σ.env 1=uI cell∧σ.env 2=uP (1,2)∧σ.env 5=uL .own s_1.1∧σ.env 6=uI s_1.2∧σ.mem (1,2)=some [cL .shr h_.vars,cL .shr h_.next])∧NoBox [(1,2)] σ.mem
 obtain ⟨X_4,X_4_⟩:=exV fun (r_40:((List Int)) ⊕ (Unit)) (out:Out)=>Sum.elim (fun r_40=>∃ σ:St,out=.exit 0 σ∧(σ.env 5=uL .own r_40∧σ.mem (1,2)=some [cL .shr h_.vars,cL .shr h_.next])∧NoBox [(1,2)] σ.mem) (fun r_40=>∃ σ:St,out=.ret σ∧(σ.env 4=.one (.l .own 0 [])∧σ.mem (1,2)=some [cL .shr h_.vars,cL .shr h_.next])∧NoBox [(1,2)] σ.mem) r_40
 refine loopP ({ hd:=[1,2,5,6],bx:=[],ex:=[5],rt:=[4] }) I_3 X_4 h_41 (by exact rfl) ?_ ?_ ?_
 ·rw [I_3_]
  exact ⟨by simp [zac,zaa],NoBox.restrict (by intro k hk hb;simp at hk hb;simp [hk,hb])⟩
 ·intro s_1 σ_5 a_2 hI hp
  rw [I_3_] at hI
  obtain ⟨q_7,hn_6⟩:=hI
  try simp [q_7]
  rcases zad hp with ⟨h_8,hp⟩|⟨h_8,hp⟩
  ·try simp at h_8
   obtain ⟨y_9,h_10,hp⟩:=zab hp
   have c_11:=C145_eq h_10
   simp at c_11
   try simp [q_7,h_8,c_11]
   rcases zad hp with ⟨h_12,hp⟩|⟨h_12,hp⟩
   ·try simp at h_12
    obtain ⟨y_13,h_14,hp⟩:=zab hp
    have c_15:=C115_eq h_14
    simp at c_15
    try simp [q_7,h_8,h_12,c_15]
    rcases zad hp with ⟨h_16,hp⟩|⟨h_16,hp⟩
    ·try simp at h_16
     cases hp
     try simp [q_7,h_8,h_12,h_16]
     refine zak ?_
     rw [X_4_]
     exact ⟨_,rfl,by simp [zac,zaa,q_7,h_8,h_12,h_16],NoBox.restrict (by intro k hk hb;simp at hk hb;simp [hk,hb,q_7,h_8,h_12,h_16,hn_6 k (by simp [hk,hb])])⟩
    ·try simp at h_16
     obtain ⟨_,h_17,hp⟩:=zab hp
     have b_18:=zav h_17
     try simp at b_18
     obtain ⟨e_19,h_20,hp⟩:=zab hp
     have b_21:=at_lo h_20
     have b_22:=at_hi h_20
     try simp at b_21 b_22
     have c_23:=seg_at' h_20 0 1 (by decide) (ds:=[.sc (.int .i64 e_19)]) rfl
     try simp at c_23
     cases hp
     try simp [q_7,h_8,h_12,h_16,b_18,b_21,b_22,c_23]
     refine zag ?_
     rw [I_3_]
     exact ⟨by simp [zac,zaa,q_7,h_8,h_12,h_16,b_18,b_21,b_22,c_23],NoBox.restrict (by intro k hk hb;simp at hk hb;simp [hk,hb,q_7,h_8,h_12,h_16,b_18,b_21,b_22,c_23,hn_6 k (by simp [hk,hb])])⟩
   ·try simp at h_12
    cases hp
    try simp [q_7,h_8,h_12]
    refine zal ?_
    rw [X_4_]
    exact ⟨_,rfl,by simp [zac,zaa,q_7,h_8,h_12],NoBox.restrict (by intro k hk hb;simp at hk hb;simp [hk,hb,q_7,h_8,h_12,hn_6 k (by simp [hk,hb])])⟩
  ·try simp at h_8
   try simp [q_7,h_8]
   rcases zad hp with ⟨h_24,hp⟩|⟨h_24,hp⟩
   ·try simp at h_24
    obtain ⟨y_25,h_26,hp⟩:=zab hp
    have c_27:=C145_eq h_26
    simp at c_27
    try simp [q_7,h_8,h_24,c_27]
    rcases zad hp with ⟨h_28,hp⟩|⟨h_28,hp⟩
    ·try simp at h_28
     obtain ⟨y_29,h_30,hp⟩:=zab hp
     have c_31:=C115_eq h_30
     simp at c_31
     try simp [q_7,h_8,h_24,h_28,c_31]
     rcases zad hp with ⟨h_32,hp⟩|⟨h_32,hp⟩
     ·try simp at h_32
      cases hp
      try simp [q_7,h_8,h_24,h_28,h_32]
      refine zak ?_
      rw [X_4_]
      exact ⟨_,rfl,by simp [zac,zaa,q_7,h_8,h_24,h_28,h_32],NoBox.restrict (by intro k hk hb;simp at hk hb;simp [hk,hb,q_7,h_8,h_24,h_28,h_32,hn_6 k (by simp [hk,hb])])⟩
     ·try simp at h_32
      obtain ⟨_,h_33,hp⟩:=zab hp
      have b_34:=zav h_33
      try simp at b_34
      obtain ⟨e_35,h_36,hp⟩:=zab hp
      have b_37:=at_lo h_36
      have b_38:=at_hi h_36
      try simp at b_37 b_38
      have c_39:=seg_at' h_36 0 1 (by decide) (ds:=[.sc (.int .i64 e_35)]) rfl
      try simp at c_39
      cases hp
      try simp [q_7,h_8,h_24,h_28,h_32,b_34,b_37,b_38,c_39]
      refine zag ?_
      rw [I_3_]
      exact ⟨by simp [zac,zaa,q_7,h_8,h_24,h_28,h_32,b_34,b_37,b_38,c_39],NoBox.restrict (by intro k hk hb;simp at hk hb;simp [hk,hb,q_7,h_8,h_24,h_28,h_32,b_34,b_37,b_38,c_39,hn_6 k (by simp [hk,hb])])⟩
    ·try simp at h_28
     cases hp
     try simp [q_7,h_8,h_24,h_28]
     refine zal ?_
     rw [X_4_]
     exact ⟨_,rfl,by simp [zac,zaa,q_7,h_8,h_24,h_28],NoBox.restrict (by intro k hk hb;simp at hk hb;simp [hk,hb,q_7,h_8,h_24,h_28,hn_6 k (by simp [hk,hb])])⟩
   ·try simp at h_24
    cases hp
    try simp [q_7,h_8,h_24]
    refine zak ?_
    rw [X_4_]
    exact ⟨_,rfl,by simp [zac,zaa,q_7,h_8,h_24],NoBox.restrict (by intro k hk hb;simp at hk hb;simp [hk,hb,q_7,h_8,h_24,hn_6 k (by simp [hk,hb])])⟩
 ·intro out hX
  rw [X_4_] at hX
  rcases r_40 with r_40 | r_40
  ·simp only [Sum.elim_inl,Sum.elim_inr] at hX hp
   obtain ⟨σ_42,rfl,q_44,hn_43⟩:=hX
   cases hp
   simp [Goal,FnEnd,q_44]
  ·simp only [Sum.elim_inl,Sum.elim_inr] at hX hp
   obtain ⟨σ_45,rfl,q_47,hn_46⟩:=hX
   cases hp
   simp [Goal,FnEnd,q_47]
theorem pc116:PC Tryz.prog 116 C116:=pc_of (g:=g116) (zah _ g116_s.2.1 ⟨pc115,pc145,trivial⟩) (ent Tryz.func116) fun x y h=>w116 h

def C79:List AV→Option AV:=specP (X:=THeap × Unit) fun x=>zdg x.1
theorem C79_eq {h_} {y} (h:zdg h_=some y):C79 [av .shr h_]=some (Res.res y):=zaf (x:=(h_,())) h
def g79:Cfg:={ P:=Tryz.prog,take:=[(79,49),(79,58),(79,70),(79,71),(79,82),(79,96)],keep:=[((79,5),{ hd:=[1,2,3,29,30],bx:=[5],ex:=[2,3],rt:=[2] }),((79,9),{ hd:=[1,2,3,4,5,29,30,42,43,44],bx:=[],ex:=[1,2,3,4,5,29,30],rt:=[2] }),((79,16),{ hd:=[1,2,3,4,29,30,77,78],bx:=[],ex:=[1,2,3,29,30],rt:=[2] })],gho:=[],ctx:=[(88,C88),(112,C112),(113,C113),(114,C114),(115,C115),(116,C116)] }
@[simp] theorem g79_s:type_of% (cfg_s (g:=g79) rfl):=cfg_s rfl
theorem w79 {h_} {y} (hp:zdg h_=some y):∃ m,callo g79 0 79 [av .shr h_] mem0=some (Res.res y,m):=by
 refine st0 [.cell 2 34] Tryz.func79 ?_
 unfold zdg at hp
 obtain ⟨y_1,h_2,hp⟩:=zab hp
 have c_3:=C112_eq h_2
 simp at c_3
 simp [Tryz.f79,c_3]
 rcases zad hp with ⟨h_4,hp⟩|⟨h_4,hp⟩
 ·try simp at h_4
  try simp [h_4]
  rcases zad hp with ⟨h_5,hp⟩|⟨h_5,hp⟩
  ·try simp at h_5
   cases hp
   simp [Goal,FnEnd,retR,rsrc,RSrc.val,nodupR,nodup,tupPart,h_4,h_5]
  ·try simp at h_5
   obtain ⟨y_6,h_7,hp⟩:=zab hp
   have c_8:=zja h_7
   simp at c_8
   try simp [h_4,h_5,c_8]
   rcases zad hp with ⟨h_9,hp⟩|⟨h_9,hp⟩
   ·try simp at h_9
    try simp [h_4,h_5,h_9]
    obtain ⟨r_84,h_85,hp⟩:=zab hp
    obtain ⟨I_12,I_12_⟩:=exV fun (s_10:Int × (List TNode) × (List Int)) (σ:St)=>(σ.env 1=uP (1,1)∧σ.env 2=uP (1,2)∧σ.env 3=uP (1,3)∧σ.env 29=uI (h_.next.length:Int)∧σ.env 30=uI s_10.1∧σ.mem (1,1)=some [cL .shr h_.vars,cL .shr h_.next]∧σ.mem (1,2)=some [.l .own 0 [],.l .own 0 []]∧σ.mem (1,3)=some [cL .own s_10.2.1,cL .own s_10.2.2])∧NoBox [(1,1),(1,2),(1,3)] σ.mem
    obtain ⟨X_13,X_13_⟩:=exV fun (r_84:(List TNode) × (List Int)) (out:Out)=>∃ σ:St,out=.exit 0 σ∧(σ.env 2=uP (1,2)∧σ.env 3=uP (1,3)∧σ.mem (1,1)=some [cL .shr h_.vars,cL .shr h_.next]∧σ.mem (1,2)=some [.l .own 0 [],.l .own 0 []]∧σ.mem (1,3)=some [cL .own r_84.1,cL .own r_84.2])∧NoBox [(1,1),(1,2),(1,3)] σ.mem
    refine loopP ({ hd:=[1,2,3,29,30],bx:=[5],ex:=[2,3],rt:=[2] }) I_12 X_13 h_85 (by exact rfl) ?_ ?_ ?_
    ·rw [I_12_]
     exact ⟨by simp [zac,zaa,h_4,h_5,h_9],NoBox.restrict (by intro k hk hb;simp at hk hb;simp [hk,hb,h_4,h_5,h_9])⟩
    ·intro s_10 σ_14 a_11 hI hp
     rw [I_12_] at hI
     obtain ⟨q_16,hn_15⟩:=hI
     try simp [h_4,h_5,h_9,q_16]
     rcases zad hp with ⟨h_17,hp⟩|⟨h_17,hp⟩
     ·try simp at h_17
      obtain ⟨y_18,h_19,hp⟩:=zab hp
      have c_20:=C114_eq h_19
      simp at c_20
      obtain ⟨y_21,h_22,hp⟩:=zab hp
      have c_23:=zsm h_22
      simp at c_23
      have n_24:=hn_15 (1,5) (by simp)
      try simp [h_4,h_5,h_9,q_16,h_17,c_20,c_23,n_24]
      obtain ⟨r_54,h_55,hp⟩:=zab hp
      obtain ⟨I_27,I_27_⟩:=exV fun (s_25:Int × (List Int) × (List Int)) (σ:St)=>(σ.env 1=uP (1,1)∧σ.env 2=uP (1,2)∧σ.env 3=uP (1,3)∧σ.env 4=uI s_10.1∧σ.env 5=uP (1,5)∧σ.env 29=uI (h_.next.length:Int)∧σ.env 30=uI s_10.1∧σ.env 42=uL .shr h_.vars∧σ.env 43=uI (h_.vars.length:Int)∧σ.env 44=uI s_25.1∧σ.mem (1,1)=some [cL .shr h_.vars,cL .shr h_.next]∧σ.mem (1,2)=some [.l .own 0 [],.l .own 0 []]∧σ.mem (1,3)=some [cL .own s_10.2.1,cL .own s_10.2.2]∧σ.mem (1,5)=some [cL .own s_25.2.1,cL .own s_25.2.2,cI y_21,cI 0])∧NoBox [(1,1),(1,2),(1,3),(1,5)] σ.mem
      obtain ⟨X_28,X_28_⟩:=exV fun (r_54:(List Int) × (List Int)) (out:Out)=>∃ σ:St,out=.exit 2 σ∧(σ.env 1=uP (1,1)∧σ.env 2=uP (1,2)∧σ.env 3=uP (1,3)∧σ.env 4=uI s_10.1∧σ.env 5=uP (1,5)∧σ.env 29=uI (h_.next.length:Int)∧σ.env 30=uI s_10.1∧σ.mem (1,1)=some [cL .shr h_.vars,cL .shr h_.next]∧σ.mem (1,2)=some [.l .own 0 [],.l .own 0 []]∧σ.mem (1,3)=some [cL .own s_10.2.1,cL .own s_10.2.2]∧σ.mem (1,5)=some [cL .own r_54.1,cL .own r_54.2,cI y_21,cI 0])∧NoBox [(1,1),(1,2),(1,3),(1,5)] σ.mem
      refine loopP ({ hd:=[1,2,3,4,5,29,30,42,43,44],bx:=[],ex:=[1,2,3,4,5,29,30],rt:=[2] }) I_27 X_28 h_55 (by exact rfl) ?_ ?_ ?_
      ·rw [I_27_]
       exact ⟨by simp [zac,zaa,h_4,h_5,h_9,q_16,h_17],NoBox.restrict (by intro k hk hb;simp at hk hb;simp [hk,hb,h_4,h_5,h_9,q_16,h_17,hn_15 k (by simp [hk,hb])])⟩
      ·intro s_25 σ_29 a_26 hI hp
       rw [I_27_] at hI
       obtain ⟨q_31,hn_30⟩:=hI
       try simp [h_4,h_5,h_9,h_17,q_31]
       rcases zad hp with ⟨h_32,hp⟩|⟨h_32,hp⟩
       ·try simp at h_32
        obtain ⟨e_33,h_34,hp⟩:=zab hp
        have b_35:=at_lo h_34
        have b_36:=at_hi h_34
        try simp at b_35 b_36
        have c_37:=seg_at' h_34 0 1 (by decide) (ds:=[.sc (.int .i64 e_33)]) rfl
        try simp at c_37
        obtain ⟨y_38,h_39,hp⟩:=zab hp
        have c_40:=zsm h_39
        simp at c_40
        obtain ⟨_,h_41,hp⟩:=zab hp
        have b_42:=zav h_41
        try simp at b_42
        obtain ⟨y_43,h_44,hp⟩:=zab hp
        have c_45:=C116_eq h_44
        simp at c_45
        obtain ⟨y_46,h_47,hp⟩:=zab hp
        have c_48:=C115_eq h_47
        simp at c_48
        obtain ⟨y_49,h_50,hp⟩:=zab hp
        have c_51:=zsm h_50
        simp at c_51
        obtain ⟨_,h_52,hp⟩:=zab hp
        have b_53:=zav h_52
        try simp at b_53
        cases hp
        try simp [h_4,h_5,h_9,h_17,q_31,h_32,b_35,b_36,c_37,c_40,b_42,c_45,c_48,c_51,b_53]
        refine zag ?_
        rw [I_27_]
        exact ⟨by simp [zac,zaa,h_4,h_5,h_9,h_17,q_31,h_32,b_35,b_36,c_37,c_40,b_42,c_45,c_48,c_51,b_53],NoBox.restrict (by intro k hk hb;simp at hk hb;simp [hk,hb,h_4,h_5,h_9,h_17,q_31,h_32,b_35,b_36,c_37,c_40,b_42,c_45,c_48,c_51,b_53,hn_30 k (by simp [hk,hb])])⟩
       ·try simp at h_32
        cases hp
        try simp [h_4,h_5,h_9,h_17,q_31,h_32]
        refine zak ?_
        rw [X_28_]
        exact ⟨_,rfl,by simp [zac,zaa,h_4,h_5,h_9,h_17,q_31,h_32],NoBox.restrict (by intro k hk hb;simp at hk hb;simp [hk,hb,h_4,h_5,h_9,h_17,q_31,h_32,hn_30 k (by simp [hk,hb])])⟩
      ·intro out hX
       rw [X_28_] at hX
       obtain ⟨σ_56,rfl,q_58,hn_57⟩:=hX
       obtain ⟨_,h_59,hp⟩:=zab hp
       have b_60:=zav h_59
       try simp at b_60
       try simp [h_4,h_5,h_9,h_17,q_58,b_60]
       obtain ⟨r_79,h_80,hp⟩:=zab hp
       obtain ⟨I_63,I_63_⟩:=exV fun (s_61:Int × (List Int)) (σ:St)=>(σ.env 1=uP (1,1)∧σ.env 2=uP (1,2)∧σ.env 3=uP (1,3)∧σ.env 4=uI s_10.1∧σ.env 29=uI (h_.next.length:Int)∧σ.env 30=uI s_10.1∧σ.env 77=uI (h_.next.length:Int)∧σ.env 78=uI s_61.1∧σ.mem (1,1)=some [cL .shr h_.vars,cL .shr h_.next]∧σ.mem (1,2)=some [.l .own 0 [],.l .own 0 []]∧σ.mem (1,3)=some [cL .own (s_10.2.1 ++ [(⟨r_54.1,r_54.2,y_21,0⟩:TNode)]),cL .own s_61.2]∧σ.mem (1,5)=some [.dead,.dead,.dead,.dead])∧NoBox [(1,1),(1,2),(1,3),(1,5)] σ.mem
       obtain ⟨X_64,X_64_⟩:=exV fun (r_79:(List Int)) (out:Out)=>∃ σ:St,out=.exit 4 σ∧(σ.env 1=uP (1,1)∧σ.env 2=uP (1,2)∧σ.env 3=uP (1,3)∧σ.env 29=uI (h_.next.length:Int)∧σ.env 30=uI s_10.1∧σ.mem (1,1)=some [cL .shr h_.vars,cL .shr h_.next]∧σ.mem (1,2)=some [.l .own 0 [],.l .own 0 []]∧σ.mem (1,3)=some [cL .own (s_10.2.1 ++ [(⟨r_54.1,r_54.2,y_21,0⟩:TNode)]),cL .own r_79]∧σ.mem (1,5)=some [.dead,.dead,.dead,.dead])∧NoBox [(1,1),(1,2),(1,3),(1,5)] σ.mem
       refine loopP ({ hd:=[1,2,3,4,29,30,77,78],bx:=[],ex:=[1,2,3,29,30],rt:=[2] }) I_63 X_64 h_80 (by exact rfl) ?_ ?_ ?_
       ·rw [I_63_]
        exact ⟨by simp [zac,zaa,h_4,h_5,h_9,h_17,q_58],NoBox.restrict (by intro k hk hb;simp at hk hb;simp [hk,hb,h_4,h_5,h_9,h_17,q_58,hn_57 k (by simp [hk,hb])])⟩
       ·intro s_61 σ_65 a_62 hI hp
        rw [I_63_] at hI
        obtain ⟨q_67,hn_66⟩:=hI
        try simp [h_4,h_5,h_9,h_17,q_67]
        rcases zad hp with ⟨h_68,hp⟩|⟨h_68,hp⟩
        ·try simp at h_68
         obtain ⟨e_69,h_70,hp⟩:=zab hp
         have b_71:=at_lo h_70
         have b_72:=at_hi h_70
         try simp at b_71 b_72
         have c_73:=seg_at' h_70 0 1 (by decide) (ds:=[.sc (.int .i64 e_69)]) rfl
         try simp at c_73
         obtain ⟨y_74,h_75,hp⟩:=zab hp
         have c_76:=zsm h_75
         simp at c_76
         obtain ⟨_,h_77,hp⟩:=zab hp
         have b_78:=zav h_77
         try simp at b_78
         cases hp
         try simp [h_4,h_5,h_9,h_17,q_67,h_68,b_71,b_72,c_73,c_76,b_78]
         refine zag ?_
         rw [I_63_]
         exact ⟨by simp [zac,zaa,h_4,h_5,h_9,h_17,q_67,h_68,b_71,b_72,c_73,c_76,b_78],NoBox.restrict (by intro k hk hb;simp at hk hb;simp [hk,hb,h_4,h_5,h_9,h_17,q_67,h_68,b_71,b_72,c_73,c_76,b_78,hn_66 k (by simp [hk,hb])])⟩
        ·try simp at h_68
         cases hp
         try simp [h_4,h_5,h_9,h_17,q_67,h_68]
         refine zak ?_
         rw [X_64_]
         exact ⟨_,rfl,by simp [zac,zaa,h_4,h_5,h_9,h_17,q_67,h_68],NoBox.restrict (by intro k hk hb;simp at hk hb;simp [hk,hb,h_4,h_5,h_9,h_17,q_67,h_68,hn_66 k (by simp [hk,hb])])⟩
       ·intro out hX
        rw [X_64_] at hX
        obtain ⟨σ_81,rfl,q_83,hn_82⟩:=hX
        cases hp
        try simp [h_4,h_5,h_9,h_17,q_83]
        refine zag ?_
        rw [I_12_]
        exact ⟨by simp [zac,zaa,h_4,h_5,h_9,h_17,q_83],NoBox.restrict (by intro k hk hb;simp at hk hb;simp [hk,hb,h_4,h_5,h_9,h_17,q_83,hn_82 k (by simp [hk,hb])])⟩
     ·try simp at h_17
      cases hp
      try simp [h_4,h_5,h_9,q_16,h_17]
      refine zak ?_
      rw [X_13_]
      exact ⟨_,rfl,by simp [zac,zaa,h_4,h_5,h_9,q_16,h_17],NoBox.restrict (by intro k hk hb;simp at hk hb;simp [hk,hb,h_4,h_5,h_9,q_16,h_17,hn_15 k (by simp [hk,hb])])⟩
    ·intro out hX
     rw [X_13_] at hX
     obtain ⟨σ_86,rfl,q_88,hn_87⟩:=hX
     cases hp
     simp [Goal,FnEnd,retR,rsrc,RSrc.val,nodupR,nodup,tupPart,h_4,h_5,h_9,q_88]
   ·try simp at h_9
    cases hp
    simp [Goal,FnEnd,retR,rsrc,RSrc.val,nodupR,nodup,tupPart,h_4,h_5,h_9]
 ·try simp at h_4
  cases hp
  simp [Goal,FnEnd,retR,rsrc,RSrc.val,nodupR,nodup,tupPart,h_4]
theorem pc79:PC Tryz.prog 79 C79:=pc_of (g:=g79) (zah _ g79_s.2.1 ⟨pc88,pc112,pc113,pc114,pc115,pc116,trivial⟩) (ent Tryz.func79) fun x y h=>w79 h

def C54:List AV→Option AV:=specP (X:=THeap × Unit) fun x=>zce x.1
theorem C54_eq {h_} {y} (h:zce h_=some y):C54 [av .shr h_]=some (Res.res y):=zaf (x:=(h_,())) h
def g54:Cfg:={ P:=Tryz.prog,take:=[],keep:=[],gho:=[],ctx:=[(36,C36),(79,C79)] }
@[simp] theorem g54_s:type_of% (cfg_s (g:=g54) rfl):=cfg_s rfl
theorem w54 {h_} {y} (hp:zce h_=some y):∃ m,callo g54 0 54 [av .shr h_] mem0=some (Res.res y,m):=by
 refine st0 [.cell 2 34] Tryz.func54 ?_
 unfold zce at hp
 obtain ⟨y_1,h_2,hp⟩:=zab hp
 have c_3:=C79_eq h_2
 simp at c_3
 obtain ⟨y_4,h_5,hp⟩:=zab hp
 have c_6:=C36_eq h_5
 simp at c_6
 cases hp
 simp [Tryz.f54,Goal,FnEnd,retR,rsrc,RSrc.val,nodupR,nodup,tupPart,c_3,c_6]
theorem pc54:PC Tryz.prog 54 C54:=pc_of (g:=g54) (zah _ g54_s.2.1 ⟨pc36,pc79,trivial⟩) (ent Tryz.func54) fun x y h=>w54 h

def C25:List AV→Option AV:=specP (X:=(List THeap) × Unit) fun x=>zcm x.1
theorem C25_eq {list} {y} (h:zcm list=some y):C25 [av .shr list]=some (Res.res y):=zaf (x:=(list,())) h
def g25:Cfg:={ P:=Tryz.prog,take:=[(25,18)],keep:=[((25,3),{ hd:=[3,7,8,9],bx:=[5],ex:=[3],rt:=[2] })],gho:=[],ctx:=[(12,C12),(54,C54)] }
@[simp] theorem g25_s:type_of% (cfg_s (g:=g25) rfl):=cfg_s rfl
theorem w25 {list} {y} (hp:zcm list=some y):∃ m,callo g25 0 25 [av .shr list] mem0=some (Res.res y,m):=by
 refine st0 [.tmp 2] Tryz.func25 ?_
 unfold zcm at hp
 simp [Tryz.f25]
 obtain ⟨r_21,h_22,hp⟩:=zab hp
 obtain ⟨I_3,I_3_⟩:=exV fun (s_1:(List TStructure) × Int) (σ:St)=>(σ.env 3=uL .own s_1.1∧σ.env 7=uL .shr list∧σ.env 8=uI (list.length:Int)∧σ.env 9=uI s_1.2)∧NoBox [] σ.mem
 obtain ⟨X_4,X_4_⟩:=exV fun (r_21:(List TStructure)) (out:Out)=>∃ σ:St,out=.exit 0 σ∧σ.env 3=uL .own r_21∧NoBox [] σ.mem
 refine loopP ({ hd:=[3,7,8,9],bx:=[5],ex:=[3],rt:=[2] }) I_3 X_4 h_22 (by exact rfl) ?_ ?_ ?_
 ·rw [I_3_]
  exact ⟨by simp [zac,zaa],NoBox.restrict (by intro k hk hb;simp at hk hb;simp [hk,hb])⟩
 ·intro s_1 σ_5 a_2 hI hp
  rw [I_3_] at hI
  obtain ⟨q_7,hn_6⟩:=hI
  try simp [q_7]
  rcases zad hp with ⟨h_8,hp⟩|⟨h_8,hp⟩
  ·try simp at h_8
   obtain ⟨e_9,h_10,hp⟩:=zab hp
   have b_11:=at_lo h_10
   have b_12:=at_hi h_10
   try simp at b_11 b_12
   have c_13:=seg_at' h_10 0 2 (by decide) (ds:=[.sl e_9.vars.length (encL e_9.vars),.sl e_9.next.length (encL e_9.next)]) rfl
   try simp at c_13
   have n_14:=hn_6 (1,5) (by simp)
   obtain ⟨y_15,h_16,hp⟩:=zab hp
   have c_17:=C54_eq h_16
   simp at c_17
   obtain ⟨y_18,h_19,hp⟩:=zab hp
   have c_20:=C12_eq h_19
   simp at c_20
   cases hp
   try simp [q_7,h_8,b_11,b_12,c_13,n_14,c_17,c_20]
   refine zag ?_
   rw [I_3_]
   exact ⟨by simp [zac,zaa,q_7,h_8,b_11,b_12,c_13,n_14,c_17,c_20],NoBox.restrict (by intro k hk hb;simp at hk hb;simp [hk,hb,q_7,h_8,b_11,b_12,c_13,n_14,c_17,c_20,hn_6 k (by simp [hk,hb])])⟩
  ·try simp at h_8
   cases hp
   try simp [q_7,h_8]
   refine zak ?_
   rw [X_4_]
   exact ⟨_,rfl,by simp [zac,zaa,q_7,h_8],NoBox.restrict (by intro k hk hb;simp at hk hb;simp [hk,hb,q_7,h_8,hn_6 k (by simp [hk,hb])])⟩
 ·intro out hX
  rw [X_4_] at hX
  obtain ⟨σ_23,rfl,q_25,hn_24⟩:=hX
  cases hp
  simp [Goal,FnEnd,q_25]
theorem pc25:PC Tryz.prog 25 C25:=pc_of (g:=g25) (zah _ g25_s.2.1 ⟨pc12,pc54,trivial⟩) (ent Tryz.func25) fun x y h=>w25 h

def C55:List AV→Option AV:=specP (X:=THeap × THeap × Unit) fun x=>laws_eqHeap x.1 x.2.1
theorem C55_eq {a_ b_} {y} (h:laws_eqHeap a_ b_=some y):C55 [av .shr a_,av .shr b_]=some (Res.res y):=zaf (x:=(a_,b_,())) h
def g55:Cfg:={ P:=Tryz.prog,take:=[],keep:=[],gho:=[],ctx:=[(44,C44)] }
@[simp] theorem g55_s:type_of% (cfg_s (g:=g55) rfl):=cfg_s rfl
theorem w55 {a_ b_} {y} (hp:laws_eqHeap a_ b_=some y):∃ m,callo g55 0 55 [av .shr a_,av .shr b_] mem0=some (Res.res y,m):=by
 refine st0 [.tmp 4] Tryz.func55 ?_
 unfold laws_eqHeap at hp
 obtain ⟨y_1,h_2,hp⟩:=zab hp
 have c_3:=C44_eq h_2
 simp at c_3
 simp [Tryz.f55,c_3]
 rcases zad hp with ⟨h_4,hp⟩|⟨h_4,hp⟩
 ·try simp at h_4
  obtain ⟨y_5,h_6,hp⟩:=zab hp
  have c_7:=C44_eq h_6
  simp at c_7
  try simp [h_4,c_7]
  rcases zad hp with ⟨h_8,hp⟩|⟨h_8,hp⟩
  ·try simp at h_8
   cases hp
   simp [Goal,FnEnd,h_4,h_8]
  ·try simp at h_8
   cases hp
   simp [Goal,FnEnd,h_4,h_8]
 ·try simp at h_4
  cases hp
  simp [Goal,FnEnd,h_4]
theorem pc55:PC Tryz.prog 55 C55:=pc_of (g:=g55) (zah _ g55_s.2.1 ⟨pc44,trivial⟩) (ent Tryz.func55) fun x y h=>w55 h

def C26:List AV→Option AV:=specP (X:=(List THeap) × (List THeap) × Unit) fun x=>laws_eqHeapS x.1 x.2.1
theorem C26_eq {a_ b_} {y} (h:laws_eqHeapS a_ b_=some y):C26 [av .shr a_,av .shr b_]=some (Res.res y):=zaf (x:=(a_,b_,())) h
def g26:Cfg:={ P:=Tryz.prog,take:=[],keep:=[((26,4),{ hd:=[0,1,5],bx:=[],ex:=[],rt:=[4] })],gho:=[],ctx:=[(55,C55)] }
@[simp] theorem g26_s:type_of% (cfg_s (g:=g26) rfl):=cfg_s rfl
theorem w26 {a_ b_} {y} (hp:laws_eqHeapS a_ b_=some y):∃ m,callo g26 0 26 [av .shr a_,av .shr b_] mem0=some (Res.res y,m):=by
 refine st0 [.tmp 4] Tryz.func26 ?_
 unfold laws_eqHeapS at hp
 simp [Tryz.f26]
 rcases zad hp with ⟨h_1,hp⟩|⟨h_1,hp⟩
 ·try simp at h_1
  cases hp
  simp [Goal,FnEnd,h_1]
 ·try simp at h_1
  try simp [h_1]
  obtain ⟨r_24,h_25,hp⟩:=zab hp
  obtain ⟨I_4,I_4_⟩:=exV fun (s_2:Int) (σ:St)=>(σ.env 0=uL .shr a_∧σ.env 1=uL .shr b_∧σ.env 5=uI s_2)∧σ.mem=mem0
  obtain ⟨X_5,X_5_⟩:=exV fun (r_24:(Unit) ⊕ (Unit)) (out:Out)=>Sum.elim (fun r_24=>∃ σ:St,out=.ret σ∧σ.env 4=uB false∧σ.mem=mem0) (fun r_24=>∃ σ:St,out=.exit 0 σ∧σ.mem=mem0) r_24
  refine loopP ({ hd:=[0,1,5],bx:=[],ex:=[],rt:=[4] }) I_4 X_5 h_25 (by exact rfl) ?_ ?_ ?_
  ·rw [I_4_]
   exact ⟨by simp [zac,zaa,h_1],by simp [zaa,h_1]⟩
  ·intro s_2 σ_6 a_3 hI hp
   rw [I_4_] at hI
   obtain ⟨q_8,q_7⟩:=hI
   try simp [h_1,q_8,q_7]
   rcases zad hp with ⟨h_9,hp⟩|⟨h_9,hp⟩
   ·try simp at h_9
    obtain ⟨e_10,h_11,hp⟩:=zab hp
    have b_12:=at_lo h_11
    have b_13:=at_hi h_11
    try simp at b_12 b_13
    have c_14:=seg_at' h_11 0 2 (by decide) (ds:=[.sl e_10.vars.length (encL e_10.vars),.sl e_10.next.length (encL e_10.next)]) rfl
    try simp at c_14
    obtain ⟨e_15,h_16,hp⟩:=zab hp
    have b_17:=at_lo h_16
    have b_18:=at_hi h_16
    try simp at b_17 b_18
    have c_19:=seg_at' h_16 0 2 (by decide) (ds:=[.sl e_15.vars.length (encL e_15.vars),.sl e_15.next.length (encL e_15.next)]) rfl
    try simp at c_19
    obtain ⟨y_20,h_21,hp⟩:=zab hp
    have c_22:=C55_eq h_21
    simp at c_22
    try simp [h_1,q_8,q_7,h_9,b_12,b_13,c_14,b_17,b_18,c_19,c_22]
    rcases zad hp with ⟨h_23,hp⟩|⟨h_23,hp⟩
    ·try simp at h_23
     cases hp
     try simp [h_1,q_8,q_7,h_9,h_23]
     refine zag ?_
     rw [I_4_]
     exact ⟨by simp [zac,zaa,h_1,q_8,q_7,h_9,h_23],by simp [zaa,h_1,q_8,q_7,h_9,h_23]⟩
    ·try simp at h_23
     cases hp
     try simp [h_1,q_8,q_7,h_9,h_23]
     refine zal ?_
     rw [X_5_]
     exact ⟨_,rfl,by simp [zac,zaa,h_1,q_8,q_7,h_9,h_23],by simp [zaa,h_1,q_8,q_7,h_9,h_23]⟩
   ·try simp at h_9
    cases hp
    try simp [h_1,q_8,q_7,h_9]
    refine zak ?_
    rw [X_5_]
    exact ⟨_,rfl,by simp [zaa,h_1,q_8,q_7,h_9]⟩
  ·intro out hX
   rw [X_5_] at hX
   rcases r_24 with r_24 | r_24
   ·simp only [Sum.elim_inl,Sum.elim_inr] at hX hp
    obtain ⟨σ_26,rfl,q_28,q_27⟩:=hX
    cases hp
    simp [Goal,FnEnd,h_1,q_28,q_27]
   ·simp only [Sum.elim_inl,Sum.elim_inr] at hX hp
    obtain ⟨σ_29,rfl,q_30⟩:=hX
    cases hp
    simp [Goal,FnEnd,h_1,q_30]
theorem pc26:PC Tryz.prog 26 C26:=pc_of (g:=g26) (zah _ g26_s.2.1 ⟨pc55,trivial⟩) (ent Tryz.func26) fun x y h=>w26 h

def C6:List AV→Option AV:=specP (X:=(List THeap) × Unit) fun x=>laws_FnExactAbstractAll x.1
theorem C6_eq {aList} {y} (h:laws_FnExactAbstractAll aList=some y):C6 [av .shr aList]=some (Res.res y):=zaf (x:=(aList,())) h
def g6:Cfg:={ P:=Tryz.prog,take:=[],keep:=[((27,2),rowKp),((46,2),rowKp),((15,2),rowKp),((45,2),rowKp)],gho:=[((6,13),[.many (thawSlot 1 5)]),((6,2000013),[.many (frzSlot 1 5)]),((6,17),[.many (thawSlot 1 6)]),((6,2000017),[.many (frzSlot 1 6)])],ctx:=[(13,C13),(17,C17),(22,C22),(23,C23),(24,C24),(25,C25),(26,C26)] }
@[simp] theorem g6_s:type_of% (cfg_s (g:=g6) rfl):=cfg_s rfl
theorem w6 {aList} {y} (hp:laws_FnExactAbstractAll aList=some y):∃ m,callo g6 0 6 [av .shr aList] mem0=some (Res.res y,m):=by
 have G_27:G27 g6:=⟨rfl,by kernel_rfl,rfl,fun t=>by simp,noAway (fun t=>by simp) (by simp) (fun t=>by simp),by simp [lookN],fun i=>by simp [lookK],by simp [g6,lookK],by simp⟩
 have G_46:G46 g6:=⟨rfl,by kernel_rfl,rfl,fun t=>by simp,noAway (fun t=>by simp) (by simp) (fun t=>by simp),by simp [lookN],fun i=>by simp [lookK],by simp [g6,lookK],by simp⟩
 have G_15:G15 g6:=⟨rfl,by kernel_rfl,rfl,fun t=>by simp,noAway (fun t=>by simp) (by simp) (fun t=>by simp),by simp [lookN],fun i=>by simp [lookK],by simp [g6,lookK],by simp⟩
 have G_45:G45 g6:=⟨rfl,by kernel_rfl,rfl,fun t=>by simp,noAway (fun t=>by simp) (by simp) (fun t=>by simp),by simp [lookN],fun i=>by simp [lookK],by simp [g6,lookK],by simp⟩
 refine st0 [.tmp 2] Tryz.func6 ?_
 unfold laws_FnExactAbstractAll at hp
 obtain ⟨y_1,h_2,hp⟩:=zab hp
 have c_3:=C22_eq h_2
 simp at c_3
 simp [Tryz.f6,c_3]
 rcases zad hp with ⟨h_4,hp⟩|⟨h_4,hp⟩
 ·try simp at h_4
  cases hp
  simp [Goal,FnEnd,h_4]
 ·try simp at h_4
  obtain ⟨y_5,h_6,hp⟩:=zab hp
  have c_7:=C24_eq h_6
  simp at c_7
  obtain ⟨y_8,h_9,hp⟩:=zab hp
  have c_10:=C23_eq h_9
  simp at c_10
  obtain ⟨y_11,h_12,hp⟩:=zab hp
  cases Option.some.inj (h_6.symm.trans h_12)
  obtain ⟨y_13,h_14,hp⟩:=zab hp
  have c_15:=C25_eq h_14
  simp at c_15
  obtain ⟨y_16,h_17,hp⟩:=zab hp
  have c_18:=zjb h_17
  simp at c_18
  try simp [h_4,c_7,c_10,c_7,c_15,c_18]
  rcases zad hp with ⟨h_19,hp⟩|⟨h_19,hp⟩
  ·try simp at h_19
   obtain ⟨y_20,h_21,hp⟩:=zab hp
   cases Option.some.inj (h_6.symm.trans h_21)
   obtain ⟨y_22,h_23,hp⟩:=zab hp
   have c_24:=C26_eq h_23
   simp at c_24
   try simp [h_4,h_19,c_7,c_24]
   rcases zad hp with ⟨h_25,hp⟩|⟨h_25,hp⟩
   ·try simp at h_25
    obtain ⟨r_26,h_27,hp⟩:=zab hp
    obtain ⟨lg_28,e_29⟩:=zht h_27
    have mk_30:=mk27 G_27 G_46 y_5 1 lg_28
    rw [e_29] at mk_30
    try simp [h_4,h_19,h_25]
    refine zhj 5 7 32 33 34 27 mk_30 (by simp [h_4,h_19,h_25]) (fun _=>rfl) (by simp [h_4,h_19,h_25]) (WfE.wfE _) (WfE.wfE _) (fun key hkey=>by simp [mem0,h_4,h_19,h_25]) (by simp) (by simp) (by simp) rfl (by decide) fun σ_31 qq_32 hq_33 hx_34 hk_35 he_36 hd_37 hm_38=>?_
    obtain ⟨q_39,q_40,q_41,q_42⟩:σ_31.env 0=uL .shr aList∧σ_31.env 4=uL .own y_8∧σ_31.env 6=uL .own y_13∧σ_31.env 7=uI r_26.2:=by refine ⟨(he_36 0 (by decide) (by decide) (by decide) (by decide) (by decide)).trans ?_,(he_36 4 (by decide) (by decide) (by decide) (by decide) (by decide)).trans ?_,(he_36 6 (by decide) (by decide) (by decide) (by decide) (by decide)).trans ?_,hk_35⟩ <;> simp [h_4,h_19,h_25]
    have hn_43:NoBox [] σ_31.mem:=by
     intro key hk
     by_cases hl:1 < key.1∨bigK≤key.2
     ·exact hd_37 key hl
     ·rw [hm_38 key (by omega) (by omega)]
      simp at hk
      simp [mem0,hk,h_4,h_19,h_25]
    try simp [h_4,h_19,h_25,q_39,q_40,q_41,q_42]
    rcases zad hp with ⟨h_44,hp⟩|⟨h_44,hp⟩
    ·try simp at h_44
     cases hp
     simp [Goal,FnEnd,h_4,h_19,h_25,q_39,q_40,q_41,q_42,h_44]
    ·try simp at h_44
     obtain ⟨y_45,h_46,hp⟩:=zab hp
     have c_47:=zjb h_46
     simp at c_47
     try simp [h_4,h_19,h_25,q_39,q_40,q_41,q_42,h_44,c_47]
     rcases zad hp with ⟨h_48,hp⟩|⟨h_48,hp⟩
     ·try simp at h_48
      obtain ⟨r_49,h_50,hp⟩:=zab hp
      obtain ⟨lg_51,e_52⟩:=zht h_50
      have mk_53:=mk15 G_15 G_45 G_46 y_13 1 lg_51
      rw [e_52] at mk_53
      try simp [h_4,h_19,h_25,q_39,q_40,q_41,q_42,h_44,h_48]
      refine zhj 6 8 43 44 45 15 mk_53 (by simp [h_4,h_19,h_25,q_39,q_40,q_41,q_42,h_44,h_48]) (fun _=>rfl) (by simp [h_4,h_19,h_25,q_39,q_40,q_41,q_42,h_44,h_48]) (WfE.wfE _) (WfE.wfE _) (fun key hkey=>by simp [mem0,h_4,h_19,h_25,q_39,q_40,q_41,q_42,h_44,h_48,hn_43 key (by simp)]) (by simp) (by simp) (by simp) rfl (by decide) fun σ_54 qq_55 hq_56 hx_57 hk_58 he_59 hd_60 hm_61=>?_
      obtain ⟨q_62,q_63,q_64,q_65⟩:σ_54.env 0=uL .shr aList∧σ_54.env 4=uL .own y_8∧σ_54.env 6=uL .own r_49.1∧σ_54.env 8=uI r_49.2:=by refine ⟨(he_59 0 (by decide) (by decide) (by decide) (by decide) (by decide)).trans ?_,(he_59 4 (by decide) (by decide) (by decide) (by decide) (by decide)).trans ?_,hx_57.trans (by simp),hk_58⟩ <;> simp [h_4,h_19,h_25,q_39,q_40,q_41,q_42,h_44,h_48]
      have hn_66:NoBox [] σ_54.mem:=by
       intro key hk
       by_cases hl:1 < key.1∨bigK≤key.2
       ·exact hd_60 key hl
       ·rw [hm_61 key (by omega) (by omega)]
        simp at hk
        simp [mem0,hk,h_4,h_19,h_25,q_39,q_40,q_41,q_42,h_44,h_48,hn_43 key (by simp [hk])]
      obtain ⟨y_67,h_68,hp⟩:=zab hp
      have c_69:=C17_eq h_68
      simp at c_69
      try simp [h_4,h_19,h_25,h_44,h_48,q_62,q_63,q_64,q_65,c_69]
      rcases zad hp with ⟨h_70,hp⟩|⟨h_70,hp⟩
      ·try simp at h_70
       cases hp
       simp [Goal,FnEnd,h_4,h_19,h_25,h_44,h_48,q_62,q_63,q_64,q_65,h_70]
      ·try simp at h_70
       try simp [h_4,h_19,h_25,h_44,h_48,q_62,q_63,q_64,q_65,h_70]
       rcases zad hp with ⟨h_71,hp⟩|⟨h_71,hp⟩
       ·try simp at h_71
        cases hp
        simp [Goal,FnEnd,h_4,h_19,h_25,h_44,h_48,q_62,q_63,q_64,q_65,h_70,h_71]
       ·try simp at h_71
        obtain ⟨y_72,h_73,hp⟩:=zab hp
        have c_74:=C24_eq h_73
        simp at c_74
        obtain ⟨y_75,h_76,hp⟩:=zab hp
        have c_77:=C25_eq h_76
        simp at c_77
        obtain ⟨y_78,h_79,hp⟩:=zab hp
        have c_80:=zjb h_79
        simp at c_80
        try simp [h_4,h_19,h_25,h_44,h_48,q_62,q_63,q_64,q_65,h_70,h_71,c_74,c_77,c_80]
        rcases zad hp with ⟨h_81,hp⟩|⟨h_81,hp⟩
        ·try simp at h_81
         obtain ⟨y_82,h_83,hp⟩:=zab hp
         cases Option.some.inj (h_68.symm.trans h_83)
         cases hp
         simp [Goal,FnEnd,h_4,h_19,h_25,h_44,h_48,q_62,q_63,q_64,q_65,h_70,h_71,h_81,c_69]
        ·try simp at h_81
         cases hp
         simp [Goal,FnEnd,h_4,h_19,h_25,h_44,h_48,q_62,q_63,q_64,q_65,h_70,h_71,h_81]
     ·try simp at h_48
      cases hp
      simp [Goal,FnEnd,h_4,h_19,h_25,q_39,q_40,q_41,q_42,h_44,h_48]
   ·try simp at h_25
    cases hp
    simp [Goal,FnEnd,h_4,h_19,h_25]
  ·try simp at h_19
   cases hp
   simp [Goal,FnEnd,h_4,h_19]
theorem pc6:PC Tryz.prog 6 C6:=pc_of (g:=g6) (zah _ g6_s.2.1 ⟨pc13,pc17,pc22,pc23,pc24,pc25,pc26,trivial⟩) (ent Tryz.func6) fun x y h=>w6 h
end Go.Proofs

