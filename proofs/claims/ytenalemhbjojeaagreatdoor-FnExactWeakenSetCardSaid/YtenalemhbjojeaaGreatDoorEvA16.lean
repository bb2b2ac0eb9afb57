import Derived.Test.YtenalemhbjojeaaGreatDoorEvA15
set_option linter.unusedSimpArgs false
set_option linter.unusedVariables false
set_option linter.unnecessarySimpa false
noncomputable section
set_option maxHeartbeats 4000000
set_option maxRecDepth 100000
namespace Go.Proofs
open Go.Ev
def C112:List AV→Option AV:=specP (X:=THeap × Unit) fun x=>zhe x.1
def g112:Cfg:={ P:=Tryz.prog,take:=[],keep:=[((148,2),{ hd:=[0,1,7,8],bx:=[],ex:=[],rt:=[4] })],gho:=[],ctx:=[(143,C143),(145,C145)] }
@[simp] theorem g112_s:type_of% (cfg_s (g:=g112) rfl):=cfg_s rfl
def C114:List AV→Option AV:=specP (X:=(List Int) × Int × Unit) fun x=>zkc x.1 x.2.1
def g114:Cfg:={ P:=Tryz.prog,take:=[(114,19),(114,24)],keep:=[((114,3),{ hd:=[1,5,9,10,11],bx:=[],ex:=[5],rt:=[4] })],gho:=[],ctx:=[] }
@[simp] theorem g114_s:type_of% (cfg_s (g:=g114) rfl):=cfg_s rfl
def C113:List AV→Option AV:=specP (X:=Bool × Unit) fun x=>zge x.1
def g113:Cfg:={ P:=Tryz.prog,take:=[],keep:=[],gho:=[],ctx:=[] }
@[simp] theorem g113_s:type_of% (cfg_s (g:=g113) rfl):=cfg_s rfl
def C146:List AV→Option AV:=specP (X:=(List Int) × Int × Unit) fun x=>ziq x.1 x.2.1
def g146:Cfg:={ P:=Tryz.prog,take:=[],keep:=[((146,2),{ hd:=[0,1,7,8],bx:=[],ex:=[],rt:=[4] })],gho:=[],ctx:=[] }
@[simp] theorem g146_s:type_of% (cfg_s (g:=g146) rfl):=cfg_s rfl
def C115:List AV→Option AV:=specP (X:=(List Int) × Int × Unit) fun x=>zdx x.1 x.2.1
def g115:Cfg:={ P:=Tryz.prog,take:=[],keep:=[],gho:=[],ctx:=[(146,C146)] }
@[simp] theorem g115_s:type_of% (cfg_s (g:=g115) rfl):=cfg_s rfl
def C116:List AV→Option AV:=specP (X:=THeap × Int × Unit) fun x=>zlq x.1 x.2.1
def g116:Cfg:={ P:=Tryz.prog,take:=[(116,27),(116,31)],keep:=[((116,3),{ hd:=[1,2,5,6],bx:=[],ex:=[5],rt:=[4] })],gho:=[],ctx:=[(115,C115),(145,C145)] }
@[simp] theorem g116_s:type_of% (cfg_s (g:=g116) rfl):=cfg_s rfl
def C79:List AV→Option AV:=specP (X:=THeap × Unit) fun x=>zir x.1
def g79:Cfg:={ P:=Tryz.prog,take:=[(79,49),(79,58),(79,70),(79,71),(79,82),(79,96)],keep:=[((79,5),{ hd:=[1,2,3,29,30],bx:=[5],ex:=[2,3],rt:=[2] }),((79,9),{ hd:=[1,2,3,4,5,29,30,42,43,44],bx:=[],ex:=[1,2,3,4,5,29,30],rt:=[2] }),((79,16),{ hd:=[1,2,3,4,29,30,77,78],bx:=[],ex:=[1,2,3,29,30],rt:=[2] })],gho:=[],ctx:=[(88,C88),(112,C112),(113,C113),(114,C114),(115,C115),(116,C116)] }
@[simp] theorem g79_s:type_of% (cfg_s (g:=g79) rfl):=cfg_s rfl
def C54:List AV→Option AV:=specP (X:=THeap × Unit) fun x=>zhf x.1
def g54:Cfg:={ P:=Tryz.prog,take:=[],keep:=[],gho:=[],ctx:=[(36,C36),(79,C79)] }
@[simp] theorem g54_s:type_of% (cfg_s (g:=g54) rfl):=cfg_s rfl
def C25:List AV→Option AV:=specP (X:=(List THeap) × Unit) fun x=>zfd x.1
theorem C25_eq {list} {y} (h:zfd list=some y):C25 [av .shr list]=some (Res.res y):=zaf (x:=(list,())) h
def g25:Cfg:={ P:=Tryz.prog,take:=[(25,18)],keep:=[((25,3),{ hd:=[3,7,8,9],bx:=[5],ex:=[3],rt:=[2] })],gho:=[],ctx:=[(12,C12),(54,C54)] }
@[simp] theorem g25_s:type_of% (cfg_s (g:=g25) rfl):=cfg_s rfl
def C55:List AV→Option AV:=specP (X:=THeap × THeap × Unit) fun x=>laws_eqHeap x.1 x.2.1
def g55:Cfg:={ P:=Tryz.prog,take:=[],keep:=[],gho:=[],ctx:=[(44,C44)] }
@[simp] theorem g55_s:type_of% (cfg_s (g:=g55) rfl):=cfg_s rfl
def C26:List AV→Option AV:=specP (X:=(List THeap) × (List THeap) × Unit) fun x=>laws_eqHeapS x.1 x.2.1
theorem C26_eq {a_ b_} {y} (h:laws_eqHeapS a_ b_=some y):C26 [av .shr a_,av .shr b_]=some (Res.res y):=zaf (x:=(a_,b_,())) h
def g26:Cfg:={ P:=Tryz.prog,take:=[],keep:=[((26,4),{ hd:=[0,1,5],bx:=[],ex:=[],rt:=[4] })],gho:=[],ctx:=[(55,C55)] }
@[simp] theorem g26_s:type_of% (cfg_s (g:=g26) rfl):=cfg_s rfl
def g6:Cfg:={ P:=Tryz.prog,take:=[],keep:=[((27,2),rowKp),((46,2),rowKp),((15,2),rowKp),((45,2),rowKp)],gho:=[((6,13),[.many (thawSlot 1 5)]),((6,2000013),[.many (frzSlot 1 5)]),((6,17),[.many (thawSlot 1 6)]),((6,2000017),[.many (frzSlot 1 6)])],ctx:=[(13,C13),(17,C17),(22,C22),(23,C23),(24,C24),(25,C25),(26,C26)] }
@[simp] theorem g6_s:type_of% (cfg_s (g:=g6) rfl):=cfg_s rfl
theorem w6 {aList} {y} (hp:laws_FnExactAbstractAll aList=some y):∃ m,callo g6 0 6 [av .shr aList] mem0=some (Res.res y,m):=by
 have G_27:G27 g6:=⟨rfl,by kernel_rfl,rfl,fun t=>by simp,noAway (fun t=>by simp) (by simp) (fun t=>by simp),by simp [lookN],fun i=>by simp [lookK],by simp [g6,lookK],by simp⟩
 have G_46:G46 g6:=⟨rfl,by kernel_rfl,rfl,fun t=>by simp,noAway (fun t=>by simp) (by simp) (fun t=>by simp),by simp [lookN],fun i=>by simp [lookK],by simp [g6,lookK],by simp⟩
 have G_15:G15 g6:=⟨rfl,by kernel_rfl,rfl,fun t=>by simp,noAway (fun t=>by simp) (by simp) (fun t=>by simp),by simp [lookN],fun i=>by simp [lookK],by simp [g6,lookK],by simp⟩
 have G_45:G45 g6:=⟨rfl,by kernel_rfl,rfl,fun t=>by simp,noAway (fun t=>by simp) (by simp) (fun t=>by simp),by simp [lookN],fun i=>by simp [lookK],by simp [g6,lookK],by simp⟩
 refine st0 [.tmp 2] Tryz.func6 ?_
 unfold laws_FnExactAbstractAll at hp
 obtain ⟨y_1,h_2,hp⟩:=zaa hp
 have c_3:=C22_eq h_2
 simp at c_3
 simp [Tryz.f6,c_3]
 rcases zad hp with ⟨h_4,hp⟩|⟨h_4,hp⟩
 ·try simp at h_4
  cases hp
  simp [Goal,FnEnd,h_4]
 ·try simp at h_4
  obtain ⟨y_5,h_6,hp⟩:=zaa hp
  have c_7:=C24_eq h_6
  simp at c_7
  obtain ⟨y_8,h_9,hp⟩:=zaa hp
  have c_10:=C23_eq h_9
  simp at c_10
  obtain ⟨y_11,h_12,hp⟩:=zaa hp
  cases Option.some.inj (h_6.symm.trans h_12)
  obtain ⟨y_13,h_14,hp⟩:=zaa hp
  have c_15:=C25_eq h_14
  simp at c_15
  obtain ⟨y_16,h_17,hp⟩:=zaa hp
  have c_18:=zgj h_17
  simp at c_18
  try simp [h_4,c_7,c_10,c_7,c_15,c_18]
  rcases zad hp with ⟨h_19,hp⟩|⟨h_19,hp⟩
  ·try simp at h_19
   obtain ⟨y_20,h_21,hp⟩:=zaa hp
   cases Option.some.inj (h_6.symm.trans h_21)
   obtain ⟨y_22,h_23,hp⟩:=zaa hp
   have c_24:=C26_eq h_23
   simp at c_24
   try simp [h_4,h_19,c_7,c_24]
   rcases zad hp with ⟨h_25,hp⟩|⟨h_25,hp⟩
   ·try simp at h_25
    obtain ⟨r_26,h_27,hp⟩:=zaa hp
    obtain ⟨lg_28,e_29⟩:=zfy h_27
    have mk_30:=mk27 G_27 G_46 y_5 1 lg_28
    rw [e_29] at mk_30
    try simp [h_4,h_19,h_25]
    refine zfo 5 7 32 33 34 27 mk_30 (by simp [h_4,h_19,h_25]) (fun _=>rfl) (by simp [h_4,h_19,h_25]) (WfE.wfE _) (WfE.wfE _) (fun key hkey=>by simp [mem0,h_4,h_19,h_25]) (by simp) (by simp) (by simp) rfl (by decide) fun σ_31 qq_32 hq_33 hx_34 hk_35 he_36 hd_37 hm_38=>?_
    obtain ⟨q_39,q_40,q_41,q_42⟩:σ_31.env 0=uL .shr aList∧σ_31.env 4=uL .own y_8∧σ_31.env 6=uL .own y_13∧σ_31.env 7=uI r_26.2:=by refine ⟨(he_36 0 (by decide) (by decide) (by decide) (by decide) (by decide)).trans ?_,(he_36 4 (by decide) (by decide) (by decide) (by decide) (by decide)).trans ?_,(he_36 6 (by decide) (by decide) (by decide) (by decide) (by decide)).trans ?_,hk_35⟩ <;> simp [h_4,h_19,h_25]
    have hn_43:NoBox [] σ_31.mem:=by
     intro key hk
     by_cases hl:1 < key.1∨bigK≤key.2
     ·exact hd_37 key hl
     ·rw [hm_38 key (by omega) (by omega)]
      simp at hk
      simp [mem0,hk,h_4,h_19,h_25]
    try simp [h_4,h_19,h_25,q_39,q_40,q_41,q_42]
    rcases zad hp with ⟨h_44,hp⟩|⟨h_44,hp⟩
    ·try simp at h_44
     cases hp
     simp [Goal,FnEnd,h_4,h_19,h_25,q_39,q_40,q_41,q_42,h_44]
    ·try simp at h_44
     obtain ⟨y_45,h_46,hp⟩:=zaa hp
     have c_47:=zgj h_46
     simp at c_47
     try simp [h_4,h_19,h_25,q_39,q_40,q_41,q_42,h_44,c_47]
     rcases zad hp with ⟨h_48,hp⟩|⟨h_48,hp⟩
     ·try simp at h_48
      obtain ⟨r_49,h_50,hp⟩:=zaa hp
      obtain ⟨lg_51,e_52⟩:=zfy h_50
      have mk_53:=mk15 G_15 G_45 G_46 y_13 1 lg_51
      rw [e_52] at mk_53
      try simp [h_4,h_19,h_25,q_39,q_40,q_41,q_42,h_44,h_48]
      refine zfo 6 8 43 44 45 15 mk_53 (by simp [h_4,h_19,h_25,q_39,q_40,q_41,q_42,h_44,h_48]) (fun _=>rfl) (by simp [h_4,h_19,h_25,q_39,q_40,q_41,q_42,h_44,h_48]) (WfE.wfE _) (WfE.wfE _) (fun key hkey=>by simp [mem0,h_4,h_19,h_25,q_39,q_40,q_41,q_42,h_44,h_48,hn_43 key (by simp)]) (by simp) (by simp) (by simp) rfl (by decide) fun σ_54 qq_55 hq_56 hx_57 hk_58 he_59 hd_60 hm_61=>?_
      obtain ⟨q_62,q_63,q_64,q_65⟩:σ_54.env 0=uL .shr aList∧σ_54.env 4=uL .own y_8∧σ_54.env 6=uL .own r_49.1∧σ_54.env 8=uI r_49.2:=by refine ⟨(he_59 0 (by decide) (by decide) (by decide) (by decide) (by decide)).trans ?_,(he_59 4 (by decide) (by decide) (by decide) (by decide) (by decide)).trans ?_,hx_57.trans (by simp),hk_58⟩ <;> simp [h_4,h_19,h_25,q_39,q_40,q_41,q_42,h_44,h_48]
      have hn_66:NoBox [] σ_54.mem:=by
       intro key hk
       by_cases hl:1 < key.1∨bigK≤key.2
       ·exact hd_60 key hl
       ·rw [hm_61 key (by omega) (by omega)]
        simp at hk
        simp [mem0,hk,h_4,h_19,h_25,q_39,q_40,q_41,q_42,h_44,h_48,hn_43 key (by simp [hk])]
      obtain ⟨y_67,h_68,hp⟩:=zaa hp
      have c_69:=C17_eq h_68
      simp at c_69
      try simp [h_4,h_19,h_25,h_44,h_48,q_62,q_63,q_64,q_65,c_69]
      rcases zad hp with ⟨h_70,hp⟩|⟨h_70,hp⟩
      ·try simp at h_70
       cases hp
       simp [Goal,FnEnd,h_4,h_19,h_25,h_44,h_48,q_62,q_63,q_64,q_65,h_70]
      ·try simp at h_70
       try simp [h_4,h_19,h_25,h_44,h_48,q_62,q_63,q_64,q_65,h_70]
       rcases zad hp with ⟨h_71,hp⟩|⟨h_71,hp⟩
       ·try simp at h_71
        cases hp
        simp [Goal,FnEnd,h_4,h_19,h_25,h_44,h_48,q_62,q_63,q_64,q_65,h_70,h_71]
       ·try simp at h_71
        obtain ⟨y_72,h_73,hp⟩:=zaa hp
        have c_74:=C24_eq h_73
        simp at c_74
        obtain ⟨y_75,h_76,hp⟩:=zaa hp
        have c_77:=C25_eq h_76
        simp at c_77
        obtain ⟨y_78,h_79,hp⟩:=zaa hp
        have c_80:=zgj h_79
        simp at c_80
        try simp [h_4,h_19,h_25,h_44,h_48,q_62,q_63,q_64,q_65,h_70,h_71,c_74,c_77,c_80]
        rcases zad hp with ⟨h_81,hp⟩|⟨h_81,hp⟩
        ·try simp at h_81
         obtain ⟨y_82,h_83,hp⟩:=zaa hp
         cases Option.some.inj (h_68.symm.trans h_83)
         cases hp
         simp [Goal,FnEnd,h_4,h_19,h_25,h_44,h_48,q_62,q_63,q_64,q_65,h_70,h_71,h_81,c_69]
        ·try simp at h_81
         cases hp
         simp [Goal,FnEnd,h_4,h_19,h_25,h_44,h_48,q_62,q_63,q_64,q_65,h_70,h_71,h_81]
     ·try simp at h_48
      cases hp
      simp [Goal,FnEnd,h_4,h_19,h_25,q_39,q_40,q_41,q_42,h_44,h_48]
   ·try simp at h_25
    cases hp
    simp [Goal,FnEnd,h_4,h_19,h_25]
  ·try simp at h_19
   cases hp
   simp [Goal,FnEnd,h_4,h_19]
def C20:List AV→Option AV:=specP (X:=(List TStructure) × Unit) fun x=>zdn x.1
theorem C20_eq {set} {y} (h:zdn set=some y):C20 [av .shr set]=some (Res.res y):=zaf (x:=(set,())) h
def g20:Cfg:={ P:=Tryz.prog,take:=[(20,34)],keep:=[((20,3),{ hd:=[0,3,4],bx:=[5],ex:=[3],rt:=[2] }),((20,7),{ hd:=[0,3,4,5,6],bx:=[],ex:=[0,3,4,5],rt:=[2] })],gho:=[((20,9),[.thaw (.at 5 0) 1080 4]),((20,2000009),[.frz (.at 5 0)])],ctx:=[(9,C9),(32,C32)] }
@[simp] theorem g20_s:type_of% (cfg_s (g:=g20) rfl):=cfg_s rfl
theorem w20 {set} {y} (hp:zdn set=some y):∃ m,callo g20 0 20 [av .shr set] mem0=some (Res.res y,m):=by
 refine st0 [.tmp 2] Tryz.func20 ?_
 unfold zdn at hp
 simp [Tryz.f20]
 obtain ⟨r_41,h_42,hp⟩:=zaa hp
 obtain ⟨I_3,I_3_⟩:=exV fun (s_1:(List TStructure) × Int) (σ:St)=>(σ.env 0=uL .shr set∧σ.env 3=uL .own s_1.1∧σ.env 4=uI s_1.2)∧NoBox [] σ.mem
 obtain ⟨X_4,X_4_⟩:=exV fun (r_41:(List TStructure)) (out:Out)=>∃ σ:St,out=.exit 0 σ∧σ.env 3=uL .own r_41∧NoBox [] σ.mem
 refine loopP ({ hd:=[0,3,4],bx:=[5],ex:=[3],rt:=[2] }) I_3 X_4 h_42 (by exact rfl) ?_ ?_ ?_
 ·rw [I_3_]
  exact ⟨by simp [zac,zab],NoBox.restrict (by intro k hk hb;simp at hk hb;simp [hk,hb] <;> (intro hx;simp [hx]))⟩
 ·intro s_1 σ_5 a_2 hI hp
  rw [I_3_] at hI
  obtain ⟨q_7,hn_6⟩:=hI
  try simp [q_7]
  rcases zad hp with ⟨h_8,hp⟩|⟨h_8,hp⟩
  ·try simp at h_8
   obtain ⟨e_9,h_10,hp⟩:=zaa hp
   have b_11:=at_lo h_10
   have b_12:=at_hi h_10
   try simp at b_11 b_12
   have c_13:=seg_at' h_10 0 2 (by decide) (ds:=[.sl e_9.nodes.length (encL e_9.nodes),.sl e_9.next.length (encL e_9.next)]) rfl
   try simp at c_13
   obtain ⟨y_14,h_15,hp⟩:=zaa hp
   have c_16:=zpn h_15
   simp at c_16
   have n_17:=hn_6 (1,5) (by simp)
   try simp [q_7,h_8,b_11,b_12,c_13,c_16,n_17]
   obtain ⟨r_33,h_34,hp⟩:=zaa hp
   obtain ⟨I_20,I_20_⟩:=exV fun (s_18:Int × (List TNode)) (σ:St)=>(σ.env 0=uL .shr set∧σ.env 3=uL .own s_1.1∧σ.env 4=uI s_1.2∧σ.env 5=uP (1,5)∧σ.env 6=uI s_18.1∧σ.mem (1,5)=some [cL .own s_18.2,cL .own y_14.next])∧NoBox [(1,5)] σ.mem
   obtain ⟨X_21,X_21_⟩:=exV fun (r_33:(List TNode)) (out:Out)=>∃ σ:St,out=.exit 2 σ∧(σ.env 0=uL .shr set∧σ.env 3=uL .own s_1.1∧σ.env 4=uI s_1.2∧σ.env 5=uP (1,5)∧σ.mem (1,5)=some [cL .own r_33,cL .own y_14.next])∧NoBox [(1,5)] σ.mem
   refine loopP ({ hd:=[0,3,4,5,6],bx:=[],ex:=[0,3,4,5],rt:=[2] }) I_20 X_21 h_34 (by exact rfl) ?_ ?_ ?_
   ·rw [I_20_]
    exact ⟨by simp [zac,zab,q_7,h_8],NoBox.restrict (by intro k hk hb;simp at hk hb;simp [hk,hb,q_7,h_8,hn_6 k (by simp [hk,hb])] <;> (intro hx;simp [hx]))⟩
   ·intro s_18 σ_22 a_19 hI hp
    rw [I_20_] at hI
    obtain ⟨q_24,hn_23⟩:=hI
    try simp [h_8,q_24]
    rcases zad hp with ⟨h_25,hp⟩|⟨h_25,hp⟩
    ·try simp at h_25
     try simp [h_8,q_24,h_25]
     have n_26:=hn_23 (1,1080) (by simp)
     obtain ⟨e_27,h_28,hp⟩:=zaa hp
     have b_29:=at_lo h_28
     have b_30:=at_hi h_28
     try simp at b_29 b_30
     have c_31:=zhp h_28 2 (⟨e_27.vars,e_27.reach,1,e_27.many⟩:TNode) [(cI 1)] (by simp) rfl
     try simp at c_31
     have l_32:=zld h_28 2 (m:=1) (by decide)
     try simp at l_32
     cases hp
     try simp [h_8,q_24,h_25,n_26,b_29,b_30,c_31,l_32]
     refine zag ?_
     rw [I_20_]
     exact ⟨by simp [zac,zab,h_8,q_24,h_25,n_26,b_29,b_30,c_31,l_32],NoBox.restrict (by intro k hk hb;simp at hk hb;simp [hk,hb,h_8,q_24,h_25,n_26,b_29,b_30,c_31,l_32,hn_23 k (by simp [hk,hb])] <;> (intro hx;simp [hx]))⟩
    ·try simp at h_25
     cases hp
     try simp [h_8,q_24,h_25]
     refine zak ?_
     rw [X_21_]
     exact ⟨_,rfl,by simp [zac,zab,h_8,q_24,h_25],NoBox.restrict (by intro k hk hb;simp at hk hb;simp [hk,hb,h_8,q_24,h_25,hn_23 k (by simp [hk,hb])] <;> (intro hx;simp [hx]))⟩
   ·intro out hX
    rw [X_21_] at hX
    obtain ⟨σ_35,rfl,q_37,hn_36⟩:=hX
    obtain ⟨y_38,h_39,hp⟩:=zaa hp
    have c_40:=C9_eq h_39
    simp at c_40
    cases hp
    try simp [h_8,q_37,c_40]
    refine zag ?_
    rw [I_3_]
    exact ⟨by simp [zac,zab,h_8,q_37,c_40],NoBox.restrict (by intro k hk hb;simp at hk hb;simp [hk,hb,h_8,q_37,c_40,hn_36 k (by simp [hk,hb])] <;> (intro hx;simp [hx]))⟩
  ·try simp at h_8
   cases hp
   try simp [q_7,h_8]
   refine zak ?_
   rw [X_4_]
   exact ⟨_,rfl,by simp [zac,zab,q_7,h_8],NoBox.restrict (by intro k hk hb;simp at hk hb;simp [hk,hb,q_7,h_8,hn_6 k (by simp [hk,hb])] <;> (intro hx;simp [hx]))⟩
 ·intro out hX
  rw [X_4_] at hX
  obtain ⟨σ_43,rfl,q_45,hn_44⟩:=hX
  cases hp
  simp [Goal,FnEnd,q_45]
theorem pc20:PC Tryz.prog 20 C20:=pc_of (g:=g20) (zaj _ g20_s.2.1 ⟨pc9,pc32,trivial⟩) (ent Tryz.func20) fun x y h=>w20 h

def C21:List AV→Option AV:=specP (X:=(List TStructure) × Unit) fun x=>zcy x.1
theorem C21_eq {set} {y} (h:zcy set=some y):C21 [av .shr set]=some (Res.res y):=zaf (x:=(set,())) h
def g21:Cfg:={ P:=Tryz.prog,take:=[(21,33)],keep:=[((21,3),{ hd:=[3,9,10,11],bx:=[5,6],ex:=[3],rt:=[2] }),((21,7),{ hd:=[3,6,9,10,11,19,20],bx:=[],ex:=[3,6,9,10,11],rt:=[2] })],gho:=[((21,9),[.thaw (.at 6 0) 1096 4]),((21,2000009),[.frz (.at 6 0)])],ctx:=[(12,C12),(50,C50)] }
@[simp] theorem g21_s:type_of% (cfg_s (g:=g21) rfl):=cfg_s rfl
theorem w21 {set} {y} (hp:zcy set=some y):∃ m,callo g21 0 21 [av .shr set] mem0=some (Res.res y,m):=by
 refine st0 [.tmp 2] Tryz.func21 ?_
 unfold zcy at hp
 simp [Tryz.f21]
 obtain ⟨r_42,h_43,hp⟩:=zaa hp
 obtain ⟨I_3,I_3_⟩:=exV fun (s_1:(List TStructure) × Int) (σ:St)=>(σ.env 3=uL .own s_1.1∧σ.env 9=uL .shr set∧σ.env 10=uI (set.length:Int)∧σ.env 11=uI s_1.2)∧NoBox [] σ.mem
 obtain ⟨X_4,X_4_⟩:=exV fun (r_42:(List TStructure)) (out:Out)=>∃ σ:St,out=.exit 0 σ∧σ.env 3=uL .own r_42∧NoBox [] σ.mem
 refine loopP ({ hd:=[3,9,10,11],bx:=[5,6],ex:=[3],rt:=[2] }) I_3 X_4 h_43 (by exact rfl) ?_ ?_ ?_
 ·rw [I_3_]
  exact ⟨by simp [zac,zab],NoBox.restrict (by intro k hk hb;simp at hk hb;simp [hk,hb] <;> (intro hx;simp [hx]))⟩
 ·intro s_1 σ_5 a_2 hI hp
  rw [I_3_] at hI
  obtain ⟨q_7,hn_6⟩:=hI
  try simp [q_7]
  rcases zad hp with ⟨h_8,hp⟩|⟨h_8,hp⟩
  ·try simp at h_8
   obtain ⟨e_9,h_10,hp⟩:=zaa hp
   have b_11:=at_lo h_10
   have b_12:=at_hi h_10
   try simp at b_11 b_12
   have c_13:=seg_at' h_10 0 2 (by decide) (ds:=[.sl e_9.nodes.length (encL e_9.nodes),.sl e_9.next.length (encL e_9.next)]) rfl
   try simp at c_13
   have n_14:=hn_6 (1,5) (by simp)
   obtain ⟨y_15,h_16,hp⟩:=zaa hp
   have c_17:=C50_eq h_16
   simp at c_17
   have n_18:=hn_6 (1,6) (by simp)
   try simp [q_7,h_8,b_11,b_12,c_13,n_14,c_17,n_18]
   obtain ⟨r_34,h_35,hp⟩:=zaa hp
   obtain ⟨I_21,I_21_⟩:=exV fun (s_19:Int × (List TNode)) (σ:St)=>(σ.env 3=uL .own s_1.1∧σ.env 6=uP (1,6)∧σ.env 9=uL .shr set∧σ.env 10=uI (set.length:Int)∧σ.env 11=uI s_1.2∧σ.env 19=uI (y_15.nodes.length:Int)∧σ.env 20=uI s_19.1∧σ.mem (1,5)=some [cL .shr e_9.nodes,cL .shr e_9.next]∧σ.mem (1,6)=some [cL .own s_19.2,cL .own y_15.next])∧NoBox [(1,5),(1,6)] σ.mem
   obtain ⟨X_22,X_22_⟩:=exV fun (r_34:(List TNode)) (out:Out)=>∃ σ:St,out=.exit 2 σ∧(σ.env 3=uL .own s_1.1∧σ.env 6=uP (1,6)∧σ.env 9=uL .shr set∧σ.env 10=uI (set.length:Int)∧σ.env 11=uI s_1.2∧σ.mem (1,5)=some [cL .shr e_9.nodes,cL .shr e_9.next]∧σ.mem (1,6)=some [cL .own r_34,cL .own y_15.next])∧NoBox [(1,5),(1,6)] σ.mem
   refine loopP ({ hd:=[3,6,9,10,11,19,20],bx:=[],ex:=[3,6,9,10,11],rt:=[2] }) I_21 X_22 h_35 (by exact rfl) ?_ ?_ ?_
   ·rw [I_21_]
    exact ⟨by simp [zac,zab,q_7,h_8],NoBox.restrict (by intro k hk hb;simp at hk hb;simp [hk,hb,q_7,h_8,hn_6 k (by simp [hk,hb])] <;> (intro hx;simp [hx]))⟩
   ·intro s_19 σ_23 a_20 hI hp
    rw [I_21_] at hI
    obtain ⟨q_25,hn_24⟩:=hI
    try simp [h_8,q_25]
    rcases zad hp with ⟨h_26,hp⟩|⟨h_26,hp⟩
    ·try simp at h_26
     try simp [h_8,q_25,h_26]
     have n_27:=hn_24 (1,1096) (by simp)
     obtain ⟨e_28,h_29,hp⟩:=zaa hp
     have b_30:=at_lo h_29
     have b_31:=at_hi h_29
     try simp at b_30 b_31
     have c_32:=zhp h_29 2 (⟨e_28.vars,e_28.reach,1,e_28.many⟩:TNode) [(cI 1)] (by simp) rfl
     try simp at c_32
     have l_33:=zld h_29 2 (m:=1) (by decide)
     try simp at l_33
     cases hp
     try simp [h_8,q_25,h_26,n_27,b_30,b_31,c_32,l_33]
     refine zag ?_
     rw [I_21_]
     exact ⟨by simp [zac,zab,h_8,q_25,h_26,n_27,b_30,b_31,c_32,l_33],NoBox.restrict (by intro k hk hb;simp at hk hb;simp [hk,hb,h_8,q_25,h_26,n_27,b_30,b_31,c_32,l_33,hn_24 k (by simp [hk,hb])] <;> (intro hx;simp [hx]))⟩
    ·try simp at h_26
     cases hp
     try simp [h_8,q_25,h_26]
     refine zak ?_
     rw [X_22_]
     exact ⟨_,rfl,by simp [zac,zab,h_8,q_25,h_26],NoBox.restrict (by intro k hk hb;simp at hk hb;simp [hk,hb,h_8,q_25,h_26,hn_24 k (by simp [hk,hb])] <;> (intro hx;simp [hx]))⟩
   ·intro out hX
    rw [X_22_] at hX
    obtain ⟨σ_36,rfl,q_38,hn_37⟩:=hX
    obtain ⟨y_39,h_40,hp⟩:=zaa hp
    have c_41:=C12_eq h_40
    simp at c_41
    cases hp
    try simp [h_8,q_38,c_41]
    refine zag ?_
    rw [I_3_]
    exact ⟨by simp [zac,zab,h_8,q_38,c_41],NoBox.restrict (by intro k hk hb;simp at hk hb;simp [hk,hb,h_8,q_38,c_41,hn_37 k (by simp [hk,hb])] <;> (intro hx;simp [hx]))⟩
  ·try simp at h_8
   cases hp
   try simp [q_7,h_8]
   refine zak ?_
   rw [X_4_]
   exact ⟨_,rfl,by simp [zac,zab,q_7,h_8],NoBox.restrict (by intro k hk hb;simp at hk hb;simp [hk,hb,q_7,h_8,hn_6 k (by simp [hk,hb])] <;> (intro hx;simp [hx]))⟩
 ·intro out hX
  rw [X_4_] at hX
  obtain ⟨σ_44,rfl,q_46,hn_45⟩:=hX
  cases hp
  simp [Goal,FnEnd,q_46]
theorem pc21:PC Tryz.prog 21 C21:=pc_of (g:=g21) (zaj _ g21_s.2.1 ⟨pc12,pc50,trivial⟩) (ent Tryz.func21) fun x y h=>w21 h

def C5:List AV→Option AV:=specP (X:=(List TStructure) × Unit) fun x=>laws_FnExactWeakenSet x.1
theorem C5_eq {aSet} {y} (h:laws_FnExactWeakenSet aSet=some y):C5 [av .shr aSet]=some (Res.res y):=zaf (x:=(aSet,())) h
def g5:Cfg:={ P:=Tryz.prog,take:=[],keep:=[((15,2),rowKp),((45,2),rowKp),((46,2),rowKp)],gho:=[((5,13),[.many (thawSlot 1 5)]),((5,2000013),[.many (frzSlot 1 5)]),((5,17),[.many (thawSlot 1 6)]),((5,2000017),[.many (frzSlot 1 6)])],ctx:=[(7,C7),(10,C10),(13,C13),(17,C17),(20,C20),(21,C21)] }
@[simp] theorem g5_s:type_of% (cfg_s (g:=g5) rfl):=cfg_s rfl
theorem w5 {aSet} {y} (hp:laws_FnExactWeakenSet aSet=some y):∃ m,callo g5 0 5 [av .shr aSet] mem0=some (Res.res y,m):=by
 have G_15:G15 g5:=⟨rfl,by kernel_rfl,rfl,fun t=>by simp,noAway (fun t=>by simp) (by simp) (fun t=>by simp),by simp [lookN],fun i=>by simp [lookK],by simp [g5,lookK],by simp⟩
 have G_45:G45 g5:=⟨rfl,by kernel_rfl,rfl,fun t=>by simp,noAway (fun t=>by simp) (by simp) (fun t=>by simp),by simp [lookN],fun i=>by simp [lookK],by simp [g5,lookK],by simp⟩
 have G_46:G46 g5:=⟨rfl,by kernel_rfl,rfl,fun t=>by simp,noAway (fun t=>by simp) (by simp) (fun t=>by simp),by simp [lookN],fun i=>by simp [lookK],by simp [g5,lookK],by simp⟩
 refine st0 [.tmp 2] Tryz.func5 ?_
 unfold laws_FnExactWeakenSet at hp
 obtain ⟨y_1,h_2,hp⟩:=zaa hp
 have c_3:=C7_eq h_2
 simp at c_3
 simp [Tryz.f5,c_3]
 rcases zad hp with ⟨h_4,hp⟩|⟨h_4,hp⟩
 ·try simp at h_4
  cases hp
  simp [Goal,FnEnd,h_4]
 ·try simp at h_4
  obtain ⟨y_5,h_6,hp⟩:=zaa hp
  have c_7:=znd h_6
  simp at c_7
  obtain ⟨y_8,h_9,hp⟩:=zaa hp
  have c_10:=C20_eq h_9
  simp at c_10
  obtain ⟨y_11,h_12,hp⟩:=zaa hp
  cases Option.some.inj (h_6.symm.trans h_12)
  obtain ⟨y_13,h_14,hp⟩:=zaa hp
  have c_15:=C21_eq h_14
  simp at c_15
  obtain ⟨y_16,h_17,hp⟩:=zaa hp
  have c_18:=zgj h_17
  simp at c_18
  try simp [h_4,c_7,c_10,c_7,c_15,c_18]
  rcases zad hp with ⟨h_19,hp⟩|⟨h_19,hp⟩
  ·try simp at h_19
   obtain ⟨y_20,h_21,hp⟩:=zaa hp
   cases Option.some.inj (h_6.symm.trans h_21)
   obtain ⟨y_22,h_23,hp⟩:=zaa hp
   have c_24:=zgj h_23
   simp at c_24
   try simp [h_4,h_19,c_7,c_24]
   rcases zad hp with ⟨h_25,hp⟩|⟨h_25,hp⟩
   ·try simp at h_25
    obtain ⟨r_26,h_27,hp⟩:=zaa hp
    obtain ⟨lg_28,e_29⟩:=zfy h_27
    have mk_30:=mk15 G_15 G_45 G_46 y_5 1 lg_28
    rw [e_29] at mk_30
    try simp [h_4,h_19,h_25]
    refine zfo 5 7 32 33 34 15 mk_30 (by simp [h_4,h_19,h_25]) (fun _=>rfl) (by simp [h_4,h_19,h_25]) (WfE.wfE _) (WfE.wfE _) (fun key hkey=>by simp [mem0,h_4,h_19,h_25]) (by simp) (by simp) (by simp) rfl (by decide) fun σ_31 qq_32 hq_33 hx_34 hk_35 he_36 hd_37 hm_38=>?_
    obtain ⟨q_39,q_40,q_41,q_42⟩:σ_31.env 0=uL .shr aSet∧σ_31.env 4=uL .own y_8∧σ_31.env 6=uL .own y_13∧σ_31.env 7=uI r_26.2:=by refine ⟨(he_36 0 (by decide) (by decide) (by decide) (by decide) (by decide)).trans ?_,(he_36 4 (by decide) (by decide) (by decide) (by decide) (by decide)).trans ?_,(he_36 6 (by decide) (by decide) (by decide) (by decide) (by decide)).trans ?_,hk_35⟩ <;> simp [h_4,h_19,h_25]
    have hn_43:NoBox [] σ_31.mem:=by
     intro key hk
     by_cases hl:1 < key.1∨bigK≤key.2
     ·exact hd_37 key hl
     ·rw [hm_38 key (by omega) (by omega)]
      simp at hk
      simp [mem0,hk,h_4,h_19,h_25]
    try simp [h_4,h_19,h_25,q_39,q_40,q_41,q_42]
    rcases zad hp with ⟨h_44,hp⟩|⟨h_44,hp⟩
    ·try simp at h_44
     cases hp
     simp [Goal,FnEnd,h_4,h_19,h_25,q_39,q_40,q_41,q_42,h_44]
    ·try simp at h_44
     obtain ⟨y_45,h_46,hp⟩:=zaa hp
     have c_47:=zgj h_46
     simp at c_47
     try simp [h_4,h_19,h_25,q_39,q_40,q_41,q_42,h_44,c_47]
     rcases zad hp with ⟨h_48,hp⟩|⟨h_48,hp⟩
     ·try simp at h_48
      obtain ⟨r_49,h_50,hp⟩:=zaa hp
      obtain ⟨lg_51,e_52⟩:=zfy h_50
      have mk_53:=mk15 G_15 G_45 G_46 y_13 1 lg_51
      rw [e_52] at mk_53
      try simp [h_4,h_19,h_25,q_39,q_40,q_41,q_42,h_44,h_48]
      refine zfo 6 8 43 44 45 15 mk_53 (by simp [h_4,h_19,h_25,q_39,q_40,q_41,q_42,h_44,h_48]) (fun _=>rfl) (by simp [h_4,h_19,h_25,q_39,q_40,q_41,q_42,h_44,h_48]) (WfE.wfE _) (WfE.wfE _) (fun key hkey=>by simp [mem0,h_4,h_19,h_25,q_39,q_40,q_41,q_42,h_44,h_48,hn_43 key (by simp)]) (by simp) (by simp) (by simp) rfl (by decide) fun σ_54 qq_55 hq_56 hx_57 hk_58 he_59 hd_60 hm_61=>?_
      obtain ⟨q_62,q_63,q_64,q_65⟩:σ_54.env 0=uL .shr aSet∧σ_54.env 4=uL .own y_8∧σ_54.env 6=uL .own r_49.1∧σ_54.env 8=uI r_49.2:=by refine ⟨(he_59 0 (by decide) (by decide) (by decide) (by decide) (by decide)).trans ?_,(he_59 4 (by decide) (by decide) (by decide) (by decide) (by decide)).trans ?_,hx_57.trans (by simp),hk_58⟩ <;> simp [h_4,h_19,h_25,q_39,q_40,q_41,q_42,h_44,h_48]
      have hn_66:NoBox [] σ_54.mem:=by
       intro key hk
       by_cases hl:1 < key.1∨bigK≤key.2
       ·exact hd_60 key hl
       ·rw [hm_61 key (by omega) (by omega)]
        simp at hk
        simp [mem0,hk,h_4,h_19,h_25,q_39,q_40,q_41,q_42,h_44,h_48,hn_43 key (by simp [hk])]
      obtain ⟨y_67,h_68,hp⟩:=zaa hp
      have c_69:=C17_eq h_68
      simp at c_69
      try simp [h_4,h_19,h_25,h_44,h_48,q_62,q_63,q_64,q_65,c_69]
      rcases zad hp with ⟨h_70,hp⟩|⟨h_70,hp⟩
      ·try simp at h_70
       cases hp
       simp [Goal,FnEnd,h_4,h_19,h_25,h_44,h_48,q_62,q_63,q_64,q_65,h_70]
      ·try simp at h_70
       try simp [h_4,h_19,h_25,h_44,h_48,q_62,q_63,q_64,q_65,h_70]
       rcases zad hp with ⟨h_71,hp⟩|⟨h_71,hp⟩
       ·try simp at h_71
        cases hp
        simp [Goal,FnEnd,h_4,h_19,h_25,h_44,h_48,q_62,q_63,q_64,q_65,h_70,h_71]
       ·try simp at h_71
        obtain ⟨y_72,h_73,hp⟩:=zaa hp
        have c_74:=znd h_73
        simp at c_74
        obtain ⟨y_75,h_76,hp⟩:=zaa hp
        have c_77:=C21_eq h_76
        simp at c_77
        obtain ⟨y_78,h_79,hp⟩:=zaa hp
        have c_80:=zgj h_79
        simp at c_80
        try simp [h_4,h_19,h_25,h_44,h_48,q_62,q_63,q_64,q_65,h_70,h_71,c_74,c_77,c_80]
        rcases zad hp with ⟨h_81,hp⟩|⟨h_81,hp⟩
        ·try simp at h_81
         obtain ⟨y_82,h_83,hp⟩:=zaa hp
         cases Option.some.inj (h_68.symm.trans h_83)
         cases hp
         simp [Goal,FnEnd,h_4,h_19,h_25,h_44,h_48,q_62,q_63,q_64,q_65,h_70,h_71,h_81,c_69]
        ·try simp at h_81
         cases hp
         simp [Goal,FnEnd,h_4,h_19,h_25,h_44,h_48,q_62,q_63,q_64,q_65,h_70,h_71,h_81]
     ·try simp at h_48
      cases hp
      simp [Goal,FnEnd,h_4,h_19,h_25,q_39,q_40,q_41,q_42,h_44,h_48]
   ·try simp at h_25
    cases hp
    simp [Goal,FnEnd,h_4,h_19,h_25]
  ·try simp at h_19
   cases hp
   simp [Goal,FnEnd,h_4,h_19]
theorem pc5:PC Tryz.prog 5 C5:=pc_of (g:=g5) (zaj _ g5_s.2.1 ⟨pc7,pc10,pc13,pc17,pc20,pc21,trivial⟩) (ent Tryz.func5) fun x y h=>w5 h
end Go.Proofs

