import Derived.Test.YtfeogbfmndbcfaaEvA12
set_option linter.unusedSimpArgs false
set_option linter.unusedVariables false
set_option linter.unnecessarySimpa false
noncomputable section
set_option maxHeartbeats 4000000
set_option maxRecDepth 100000
namespace Go.Proofs
open Go.Ev
def C79:List AV→Option AV:=specP (X:=THeap × Unit) fun x=>spec_l7Cells x.1
def g79:Cfg:={ P:=Try.prog,take:=[],keep:=[((79,2),{ hd:=[1,3],bx:=[],ex:=[1],rt:=[2] }),((79,7),{ hd:=[1,4],bx:=[],ex:=[],rt:=[2] })],gho:=[],ctx:=[(59,C59)] }
@[simp] theorem g79_s:type_of% (cfg_s (g:=g79) rfl):=cfg_s rfl
def C81:List AV→Option AV:=specP (X:=(List Int) × Int × Unit) fun x=>spec_Positions x.1 x.2.1
def g81:Cfg:={ P:=Try.prog,take:=[(81,20),(81,24)],keep:=[((81,3),{ hd:=[0,1,5,6],bx:=[],ex:=[5],rt:=[4] })],gho:=[],ctx:=[] }
@[simp] theorem g81_s:type_of% (cfg_s (g:=g81) rfl):=cfg_s rfl
def C80:List AV→Option AV:=specP (X:=Bool × Unit) fun x=>spec_l3Of x.1
def g80:Cfg:={ P:=Try.prog,take:=[],keep:=[],gho:=[],ctx:=[] }
@[simp] theorem g80_s:type_of% (cfg_s (g:=g80) rfl):=cfg_s rfl
def C82:List AV→Option AV:=specP (X:=(List Int) × Int × Unit) fun x=>spec_l7Has x.1 x.2.1
def g82:Cfg:={ P:=Try.prog,take:=[],keep:=[],gho:=[],ctx:=[(81,C81)] }
@[simp] theorem g82_s:type_of% (cfg_s (g:=g82) rfl):=cfg_s rfl
def C83:List AV→Option AV:=specP (X:=THeap × Int × Unit) fun x=>spec_Followed x.1 x.2.1
def g83:Cfg:={ P:=Try.prog,take:=[(83,23),(83,32)],keep:=[((83,2),{ hd:=[1,2,5],bx:=[],ex:=[5],rt:=[4] })],gho:=[],ctx:=[(59,C59),(82,C82)] }
@[simp] theorem g83_s:type_of% (cfg_s (g:=g83) rfl):=cfg_s rfl
def C47:List AV→Option AV:=specP (X:=THeap × Unit) fun x=>spec_StructureOf x.1
def g47:Cfg:={ P:=Try.prog,take:=[(47,49),(47,62),(47,77),(47,78),(47,88),(47,100)],keep:=[((47,6),{ hd:=[1,2,3,4,5],bx:=[6],ex:=[2,4],rt:=[2] }),((47,10),{ hd:=[1,2,3,4,5,6,7],bx:=[],ex:=[1,2,3,4,5,6],rt:=[2] }),((47,16),{ hd:=[1,2,3,4,5,8],bx:=[],ex:=[1,2,3,4,5],rt:=[2] })],gho:=[],ctx:=[(59,C59),(79,C79),(80,C80),(81,C81),(82,C82),(83,C83)] }
@[simp] theorem g47_s:type_of% (cfg_s (g:=g47) rfl):=cfg_s rfl
def C16:List AV→Option AV:=specP (X:=THeap × Unit) fun x=>spec_AbstractionOf x.1
theorem C16_eq {h_} {y} (h:spec_AbstractionOf h_=some y):C16 [av .shr h_]=some (Res.res y):=zaf (x:=(h_,())) h
def g16:Cfg:={ P:=Try.prog,take:=[],keep:=[],gho:=[],ctx:=[(11,C11),(47,C47)] }
@[simp] theorem g16_s:type_of% (cfg_s (g:=g16) rfl):=cfg_s rfl
def C108:List AV→Option AV:=specP (X:=THeap × Int × Unit) fun x=>impl_Heap_isCell x.1 x.2.1
def g108:Cfg:={ P:=Try.prog,take:=[],keep:=[],gho:=[],ctx:=[(64,C64)] }
@[simp] theorem g108_s:type_of% (cfg_s (g:=g108) rfl):=cfg_s rfl
def C84:List AV→Option AV:=specP (X:=THeap × Unit) fun x=>impl_Heap_areCells x.1
def g84:Cfg:={ P:=Try.prog,take:=[],keep:=[((111,2),{ hd:=[0,1,7,8],bx:=[],ex:=[],rt:=[4] })],gho:=[],ctx:=[(106,C106),(108,C108)] }
@[simp] theorem g84_s:type_of% (cfg_s (g:=g84) rfl):=cfg_s rfl
def C86:List AV→Option AV:=specP (X:=(List Int) × Int × Unit) fun x=>impl_Positions x.1 x.2.1
def g86:Cfg:={ P:=Try.prog,take:=[(86,19),(86,24)],keep:=[((86,3),{ hd:=[1,5,9,10,11],bx:=[],ex:=[5],rt:=[4] })],gho:=[],ctx:=[] }
@[simp] theorem g86_s:type_of% (cfg_s (g:=g86) rfl):=cfg_s rfl
def C85:List AV→Option AV:=specP (X:=Bool × Unit) fun x=>impl_truthOf x.1
def g85:Cfg:={ P:=Try.prog,take:=[],keep:=[],gho:=[],ctx:=[] }
@[simp] theorem g85_s:type_of% (cfg_s (g:=g85) rfl):=cfg_s rfl
def C109:List AV→Option AV:=specP (X:=(List Int) × Int × Unit) fun x=>slices_Index_int x.1 x.2.1
def g109:Cfg:={ P:=Try.prog,take:=[],keep:=[((109,2),{ hd:=[0,1,7,8],bx:=[],ex:=[],rt:=[4] })],gho:=[],ctx:=[] }
@[simp] theorem g109_s:type_of% (cfg_s (g:=g109) rfl):=cfg_s rfl
def C87:List AV→Option AV:=specP (X:=(List Int) × Int × Unit) fun x=>slices_Contains_int x.1 x.2.1
def g87:Cfg:={ P:=Try.prog,take:=[],keep:=[],gho:=[],ctx:=[(109,C109)] }
@[simp] theorem g87_s:type_of% (cfg_s (g:=g87) rfl):=cfg_s rfl
def C88:List AV→Option AV:=specP (X:=THeap × Int × Unit) fun x=>impl_Followed x.1 x.2.1
def g88:Cfg:={ P:=Try.prog,take:=[(88,27),(88,31)],keep:=[((88,3),{ hd:=[1,2,5,6],bx:=[],ex:=[5],rt:=[4] })],gho:=[],ctx:=[(87,C87),(108,C108)] }
@[simp] theorem g88_s:type_of% (cfg_s (g:=g88) rfl):=cfg_s rfl
def C48:List AV→Option AV:=specP (X:=THeap × Unit) fun x=>impl_StructureOf x.1
def g48:Cfg:={ P:=Try.prog,take:=[(48,49),(48,58),(48,70),(48,71),(48,82),(48,96)],keep:=[((48,5),{ hd:=[1,2,3,29,30],bx:=[5],ex:=[2,3],rt:=[2] }),((48,9),{ hd:=[1,2,3,4,5,29,30,42,43,44],bx:=[],ex:=[1,2,3,4,5,29,30],rt:=[2] }),((48,16),{ hd:=[1,2,3,4,29,30,77,78],bx:=[],ex:=[1,2,3,29,30],rt:=[2] })],gho:=[],ctx:=[(64,C64),(84,C84),(85,C85),(86,C86),(87,C87),(88,C88)] }
@[simp] theorem g48_s:type_of% (cfg_s (g:=g48) rfl):=cfg_s rfl
def C18:List AV→Option AV:=specP (X:=THeap × Unit) fun x=>impl_AbstractionOf x.1
theorem C18_eq {h_} {y} (h:impl_AbstractionOf h_=some y):C18 [av .shr h_]=some (Res.res y):=zaf (x:=(h_,())) h
def g18:Cfg:={ P:=Try.prog,take:=[],keep:=[],gho:=[],ctx:=[(12,C12),(48,C48)] }
@[simp] theorem g18_s:type_of% (cfg_s (g:=g18) rfl):=cfg_s rfl
def C19:List AV→Option AV:=specP (X:=THeap × THeap × Unit) fun x=>laws_eqHeap x.1 x.2.1
theorem C19_eq {a_ b_} {y} (h:laws_eqHeap a_ b_=some y):C19 [av .shr a_,av .shr b_]=some (Res.res y):=zaf (x:=(a_,b_,())) h
def g19:Cfg:={ P:=Try.prog,take:=[],keep:=[],gho:=[],ctx:=[(28,C28)] }
@[simp] theorem g19_s:type_of% (cfg_s (g:=g19) rfl):=cfg_s rfl
def g5:Cfg:={ P:=Try.prog,take:=[],keep:=[((44,2),rowKp),((43,2),rowKp)],gho:=[((5,13),[.many (thawBox 1 5)]),((5,2000013),[.many (frzBox 1 5)]),((5,17),[.many (thawBox 1 6)]),((5,2000017),[.many (frzBox 1 6)])],ctx:=[(10,C10),(14,C14),(15,C15),(16,C16),(17,C17),(18,C18),(19,C19)] }
@[simp] theorem g5_s:type_of% (cfg_s (g:=g5) rfl):=cfg_s rfl
theorem w5 {aH} {y} (hp:laws_FnExactAbstractionOf aH=some y):∃ m,callo g5 0 5 [av .shr aH] mem0=some (Res.res y,m):=by
 have G_20:G20 g5:=⟨rfl,by kernel_rfl,rfl,fun t=>by simp,noAway (fun t=>by simp) (by simp) (fun t=>by simp),by simp [lookN],fun i=>by simp [lookK],by simp [g5,lookK],by simp⟩
 have G_44:G44 g5:=⟨rfl,by kernel_rfl,rfl,fun t=>by simp,noAway (fun t=>by simp) (by simp) (fun t=>by simp),by simp [lookN],fun i=>by simp [lookK],by simp [g5,lookK],by simp⟩
 have G_13:G13 g5:=⟨rfl,by kernel_rfl,rfl,fun t=>by simp,noAway (fun t=>by simp) (by simp) (fun t=>by simp),by simp [lookN],fun i=>by simp [lookK],by simp [g5,lookK],by simp⟩
 have G_43:G43 g5:=⟨rfl,by kernel_rfl,rfl,fun t=>by simp,noAway (fun t=>by simp) (by simp) (fun t=>by simp),by simp [lookN],fun i=>by simp [lookK],by simp [g5,lookK],by simp⟩
 refine st0 [.tmp 2] Try.func5 ?_
 unfold laws_FnExactAbstractionOf at hp
 obtain ⟨y_1,h_2,hp⟩:=zaa hp
 have c_3:=C15_eq h_2
 simp at c_3
 simp [Try.f5,c_3]
 rcases zae hp with ⟨h_4,hp⟩|⟨h_4,hp⟩
 ·try simp at h_4
  cases hp
  simp [Goal,FnEnd,h_4]
 ·try simp at h_4
  obtain ⟨y_5,h_6,hp⟩:=zaa hp
  have c_7:=C17_eq h_6
  simp at c_7
  obtain ⟨y_8,h_9,hp⟩:=zaa hp
  have c_10:=C16_eq h_9
  simp at c_10
  obtain ⟨y_11,h_12,hp⟩:=zaa hp
  cases Option.some.inj (h_6.symm.trans h_12)
  obtain ⟨y_13,h_14,hp⟩:=zaa hp
  have c_15:=C18_eq h_14
  simp at c_15
  obtain ⟨y_16,h_17,hp⟩:=zaa hp
  have c_18:=C10_eq h_17
  simp at c_18
  try simp [h_4,c_7,c_10,c_7,c_15,c_18]
  rcases zae hp with ⟨h_19,hp⟩|⟨h_19,hp⟩
  ·try simp at h_19
   obtain ⟨y_20,h_21,hp⟩:=zaa hp
   cases Option.some.inj (h_6.symm.trans h_21)
   obtain ⟨y_22,h_23,hp⟩:=zaa hp
   have c_24:=C19_eq h_23
   simp at c_24
   try simp [h_4,h_19,c_7,c_24]
   rcases zae hp with ⟨h_25,hp⟩|⟨h_25,hp⟩
   ·try simp at h_25
    obtain ⟨r_26,h_27,hp⟩:=zaa hp
    obtain ⟨lg_28,e_29⟩:=markO_eq h_27
    have mk_30:=mk20 G_20 G_44 y_5 1 lg_28
    rw [e_29] at mk_30
    try simp [h_4,h_19,h_25]
    refine goal_markB 5 5 7 32 33 34 20 mk_30 (show ti g5.P 40=some _ from ti_40) rfl rfl (by decide) (by simp [h_4,h_19,h_25]) (by simp [h_4,h_19,h_25]) (by simp [h_4,h_19,h_25]) (WfE.wfE _) (WfE.wfE _) (fun key hkey=>by simp [mem0,key_low hkey 1 1 (by decide),key_low hkey 1 4 (by decide),key_low hkey 1 5 (by decide),key_low hkey 1 6 (by decide),h_4,h_19,h_25]) (by simp) (by simp) (by simp) rfl (by decide) fun σ_31 qq_32 hq_33 hx_34 hk_35 he_36 hd_37 hm_38=>?_
    obtain ⟨q_39,q_40,q_41,q_42,q_43,q_44,q_45,q_46⟩:σ_31.env 1=uP (1,1)∧σ_31.env 4=uP (1,4)∧σ_31.env 6=uP (1,6)∧σ_31.env 7=uI r_26.2∧σ_31.mem (1,1)=some [cL .shr aH.vars,cL .shr aH.next]∧σ_31.mem (1,4)=some [cL .own y_8.nodes,cL .own y_8.next]∧σ_31.mem (1,5)=some [cL .own r_26.1.vars,cL .own r_26.1.next]∧σ_31.mem (1,6)=some [cL .own y_13.nodes,cL .own y_13.next]:=by refine ⟨(he_36 1 (by decide) (by decide) (by decide) (by decide)).trans ?_,(he_36 4 (by decide) (by decide) (by decide) (by decide)).trans ?_,(he_36 6 (by decide) (by decide) (by decide) (by decide)).trans ?_,hk_35,(hm_38 (1,1) (by decide) (by decide) (by decide)).trans ?_,(hm_38 (1,4) (by decide) (by decide) (by decide)).trans ?_,hx_34.trans (by simp),(hm_38 (1,6) (by decide) (by decide) (by decide)).trans ?_⟩ <;> simp [h_4,h_19,h_25,hq_33 (1,1) (by decide) (by decide),hq_33 (1,4) (by decide) (by decide),hq_33 (1,5) (by decide) (by decide),hq_33 (1,6) (by decide) (by decide)]
    have hn_47:NoBox [(1,1),(1,4),(1,5),(1,6)] σ_31.mem:=by
     intro key hk
     by_cases hl:1 < key.1∨bigK≤key.2
     ·exact hd_37 key hl
     ·rw [hm_38 key (by rintro rfl;simp at hk) (by omega) (by omega)]
      simp at hk
      simp [mem0,hk,h_4,h_19,h_25]
    try simp [h_4,h_19,h_25,q_39,q_40,q_41,q_42,q_43,q_44,q_45,q_46]
    rcases zae hp with ⟨h_48,hp⟩|⟨h_48,hp⟩
    ·try simp at h_48
     cases hp
     simp [Goal,FnEnd,h_4,h_19,h_25,q_39,q_40,q_41,q_42,q_43,q_44,q_45,q_46,h_48]
    ·try simp at h_48
     obtain ⟨y_49,h_50,hp⟩:=zaa hp
     have c_51:=C10_eq h_50
     simp at c_51
     try simp [h_4,h_19,h_25,q_39,q_40,q_41,q_42,q_43,q_44,q_45,q_46,h_48,c_51]
     rcases zae hp with ⟨h_52,hp⟩|⟨h_52,hp⟩
     ·try simp at h_52
      obtain ⟨r_53,h_54,hp⟩:=zaa hp
      obtain ⟨lg_55,e_56⟩:=markO_eq h_54
      have mk_57:=mk13 G_13 G_43 G_44 y_13 1 lg_55
      rw [e_56] at mk_57
      try simp [h_4,h_19,h_25,q_39,q_40,q_41,q_42,q_43,q_44,q_45,q_46,h_48,h_52]
      refine goal_markB 6 6 8 43 44 45 13 mk_57 (show ti g5.P 30=some _ from ti_30) rfl rfl (by decide) (by simp [h_4,h_19,h_25,q_39,q_40,q_41,q_42,q_43,q_44,q_45,q_46,h_48,h_52]) (by simp [h_4,h_19,h_25,q_39,q_40,q_41,q_42,q_43,q_44,q_45,q_46,h_48,h_52]) (by simp [h_4,h_19,h_25,q_39,q_40,q_41,q_42,q_43,q_44,q_45,q_46,h_48,h_52]) (WfE.wfE _) (WfE.wfE _) (fun key hkey=>by simp [mem0,key_low hkey 1 1 (by decide),key_low hkey 1 4 (by decide),key_low hkey 1 5 (by decide),key_low hkey 1 6 (by decide),h_4,h_19,h_25,q_39,q_40,q_41,q_42,q_43,q_44,q_45,q_46,h_48,h_52,hn_47 key (by simp [key_low hkey 1 1 (by decide),key_low hkey 1 4 (by decide),key_low hkey 1 5 (by decide),key_low hkey 1 6 (by decide)])]) (by simp) (by simp) (by simp) rfl (by decide) fun σ_58 qq_59 hq_60 hx_61 hk_62 he_63 hd_64 hm_65=>?_
      obtain ⟨q_66,q_67,q_68,q_69,q_70,q_71,q_72,q_73⟩:σ_58.env 1=uP (1,1)∧σ_58.env 4=uP (1,4)∧σ_58.env 6=uP (1,6)∧σ_58.env 8=uI r_53.2∧σ_58.mem (1,1)=some [cL .shr aH.vars,cL .shr aH.next]∧σ_58.mem (1,4)=some [cL .own y_8.nodes,cL .own y_8.next]∧σ_58.mem (1,5)=some [cL .own r_26.1.vars,cL .own r_26.1.next]∧σ_58.mem (1,6)=some [cL .own r_53.1.nodes,cL .own r_53.1.next]:=by refine ⟨(he_63 1 (by decide) (by decide) (by decide) (by decide)).trans ?_,(he_63 4 (by decide) (by decide) (by decide) (by decide)).trans ?_,(he_63 6 (by decide) (by decide) (by decide) (by decide)).trans ?_,hk_62,(hm_65 (1,1) (by decide) (by decide) (by decide)).trans ?_,(hm_65 (1,4) (by decide) (by decide) (by decide)).trans ?_,(hm_65 (1,5) (by decide) (by decide) (by decide)).trans ?_,hx_61.trans (by simp)⟩ <;> simp [h_4,h_19,h_25,q_39,q_40,q_41,q_42,q_43,q_44,q_45,q_46,h_48,h_52,hq_60 (1,1) (by decide) (by decide),hq_60 (1,4) (by decide) (by decide),hq_60 (1,5) (by decide) (by decide),hq_60 (1,6) (by decide) (by decide)]
      have hn_74:NoBox [(1,1),(1,4),(1,5),(1,6)] σ_58.mem:=by
       intro key hk
       by_cases hl:1 < key.1∨bigK≤key.2
       ·exact hd_64 key hl
       ·rw [hm_65 key (by rintro rfl;simp at hk) (by omega) (by omega)]
        simp at hk
        simp [mem0,hk,h_4,h_19,h_25,q_39,q_40,q_41,q_42,q_43,q_44,q_45,q_46,h_48,h_52,hn_47 key (by simp [hk])]
      obtain ⟨y_75,h_76,hp⟩:=zaa hp
      have c_77:=C14_eq h_76
      simp at c_77
      try simp [h_4,h_19,h_25,h_48,h_52,q_66,q_67,q_68,q_69,q_70,q_71,q_72,q_73,c_77]
      rcases zae hp with ⟨h_78,hp⟩|⟨h_78,hp⟩
      ·try simp at h_78
       cases hp
       simp [Goal,FnEnd,h_4,h_19,h_25,h_48,h_52,q_66,q_67,q_68,q_69,q_70,q_71,q_72,q_73,h_78]
      ·try simp at h_78
       try simp [h_4,h_19,h_25,h_48,h_52,q_66,q_67,q_68,q_69,q_70,q_71,q_72,q_73,h_78]
       rcases zae hp with ⟨h_79,hp⟩|⟨h_79,hp⟩
       ·try simp at h_79
        cases hp
        simp [Goal,FnEnd,h_4,h_19,h_25,h_48,h_52,q_66,q_67,q_68,q_69,q_70,q_71,q_72,q_73,h_78,h_79]
       ·try simp at h_79
        obtain ⟨y_80,h_81,hp⟩:=zaa hp
        have c_82:=C17_eq h_81
        simp at c_82
        obtain ⟨y_83,h_84,hp⟩:=zaa hp
        have c_85:=C18_eq h_84
        simp at c_85
        have n_86:=hn_74 (1,10) (by simp)
        obtain ⟨y_87,h_88,hp⟩:=zaa hp
        have c_89:=C10_eq h_88
        simp at c_89
        try simp [h_4,h_19,h_25,h_48,h_52,q_66,q_67,q_68,q_69,q_70,q_71,q_72,q_73,h_78,h_79,c_82,c_85,n_86,c_89]
        rcases zae hp with ⟨h_90,hp⟩|⟨h_90,hp⟩
        ·try simp at h_90
         obtain ⟨y_91,h_92,hp⟩:=zaa hp
         cases Option.some.inj (h_76.symm.trans h_92)
         cases hp
         simp [Goal,FnEnd,h_4,h_19,h_25,h_48,h_52,q_66,q_67,q_68,q_69,q_70,q_71,q_72,q_73,h_78,h_79,h_90,c_77]
        ·try simp at h_90
         cases hp
         simp [Goal,FnEnd,h_4,h_19,h_25,h_48,h_52,q_66,q_67,q_68,q_69,q_70,q_71,q_72,q_73,h_78,h_79,h_90]
     ·try simp at h_52
      cases hp
      simp [Goal,FnEnd,h_4,h_19,h_25,q_39,q_40,q_41,q_42,q_43,q_44,q_45,q_46,h_48,h_52]
   ·try simp at h_25
    cases hp
    simp [Goal,FnEnd,h_4,h_19,h_25]
  ·try simp at h_19
   cases hp
   simp [Goal,FnEnd,h_4,h_19]
end Go.Proofs

