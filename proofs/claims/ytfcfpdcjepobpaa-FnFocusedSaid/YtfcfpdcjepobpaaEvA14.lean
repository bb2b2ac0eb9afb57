import Derived.Test.YtfcfpdcjepobpaaEvA13
set_option linter.unusedSimpArgs false
set_option linter.unusedVariables false
set_option linter.unnecessarySimpa false
noncomputable section
set_option maxHeartbeats 4000000
set_option maxRecDepth 100000
namespace Go.Proofs
open Go.Ev
def C21:List C→List AV→Option (AV × List C):=specX (T:=TL1Cur) (X:=(List Int) × Unit) (R:=(Int)) fun x t=>zbk t x.1
theorem C21_eq {c list} {y} (h:zbk c list=some y):C21 (bxT c) [av .shr list]=some (Res.res y.1,bxT y.2):=zgx (T:=TL1Cur) (X:=(List Int) × Unit) (R:=(Int)) (F:=fun x t=>zbk t x.1) (x:=(list,())) h
def g21:Cfg:={ P:=Try.prog,take:=[],keep:=[],gho:=[],ctx:=[],pctx:=[(45,C45)] }
@[simp] theorem g21_s:type_of% (cfg_s (g:=g21) rfl):=cfg_s rfl
theorem g21_x45:PxOK g21 45 C45:=⟨rfl,rfl,Try.f45,Try.f45.body.getD .skip,Try.func45,by kernel_rfl⟩
theorem w21 {c list} {mem:Mem} (hT:Tight 0 mem) (hq0:mem (0,0)=some [cL .shr c.b,cI c.i,cI c.h]) (hn0:NoBox [(0,0)] mem) {y} (hp:zbk c list=some y):∃ m,callo g21 0 21 [.one (.ptr (0,0) 0),av .shr list] mem=some (Res.res y.1,m)∧(m (0,0)=some [cL .shr y.2.b,cI y.2.i,cI y.2.h]∧Tight 0 m∧NoBox [(0,0)] m):=by
 refine stD [.tmp 4] Try.func21 fun QV QV_=>?_
 unfold zbk at hp
 obtain ⟨y_1,h_2,hp⟩:=zaa hp
 simp [Try.f21,hq0]
 refine zaj (0,0) (zft h_2) g21_x45 (by simp [hq0]) (by simp) (by simp [hq0]) (.inr (by decide)) ?_
 obtain ⟨e_3,h_4,hp⟩:=zaa hp
 have b_5:=at_lo h_4
 have b_6:=at_hi h_4
 try simp at b_5 b_6
 have c_7:=seg_at' h_4 0 1 (by decide) (ds:=[.sc (.int .i64 e_3)]) rfl
 try simp at c_7
 cases hp
 simp [Goal,FnEndD,retR,rsrc,RSrc.val,nodupR,nodup,tupPart,hq0,b_5,b_6,c_7]
 rw [QV_]
 exact ⟨by simp [hq0,b_5,b_6,c_7],zbz _ _,zca (L':=[(0,0)]) (by intro k hk;simp at hk;simp [hk,hq0,b_5,b_6,c_7,hn0 k (by simp [hk])]) (by simp)⟩
theorem px21:PX Try.prog 21 C21:=px_of (g:=g21) (zfs [] rfl trivial [] rfl trivial [] rfl trivial [(45,C45)] rfl ⟨px45,trivial⟩) (ent Try.func21) fun x t y h=>by
 obtain ⟨m,h1,h2,_,h3⟩:=w21 (mem:=upd mem0 (0,0) (some (bxT t))) (Tight.upd (zak _) (by simp) (by simp)) (by simp [upd,bxT]) (zgb _ _) h
 exact ⟨m,h1,h2,h3⟩

def C20:List C→List AV→Option (AV × List C):=specXS (T:=TL1Cur) (X:=Unit) (R:=(TStructure)) fun x t=>zdu t
theorem C20_eq {c} {y} (h:zdu c=some y):C20 (bxT c) []=some ((Res.res y.1).toS,bxT y.2):=specXS_eq (T:=TL1Cur) (X:=Unit) (R:=(TStructure)) (F:=fun x t=>zdu t ) (x:=(())) h
def g20:Cfg:={ P:=Try.prog,take:=[(20,11),(20,24),(20,40)],keep:=[],gho:=[((20,7),[.thaw (.at 3 0) 1048 4]),((20,10),[.thaw (.at 3 0) 1048 4,.thaw (.mem (1,1048) 0) 108384 1]),((20,13),[.thaw (.at 3 0) 1048 4,.shareM (1,1048)]),((20,14),[.shareM (1,3)]),((20,2000007),[.frz (.at 3 0)]),((20,2000010),[.frz (.mem (1,1048) 0),.frz (.at 3 0)]),((20,2000013),[.frz (.at 3 0)])],ctx:=[],away:=[(20,22,4000000),(20,35,4000000),(20,38,4000000)],pctx:=[(18,C18),(21,C21),(45,C45)] }
@[simp] theorem g20_s:type_of% (cfg_s (g:=g20) rfl):=cfg_s rfl
theorem g20_x18:PxOK g20 18 C18:=⟨rfl,rfl,Try.f18,Try.f18.body.getD .skip,Try.func18,by kernel_rfl⟩
theorem g20_x21:PxOK g20 21 C21:=⟨rfl,rfl,Try.f21,Try.f21.body.getD .skip,Try.func21,by kernel_rfl⟩
theorem g20_x45:PxOK g20 45 C45:=⟨rfl,rfl,Try.f45,Try.f45.body.getD .skip,Try.func45,by kernel_rfl⟩
@[simp] theorem g20_wa (d f dst key):awayB g20 d f dst key=awayL [(20,22,4000000),(20,35,4000000),(20,38,4000000)] d f dst key:=rfl
@[simp] theorem g20_wl (d f a key):lateB g20 d f a key=lateL [(20,22,4000000),(20,35,4000000),(20,38,4000000)] d f a key:=rfl
theorem w20 {c} {mem:Mem} (hT:Tight 0 mem) (hq0:mem (0,0)=some [cL .shr c.b,cI c.i,cI c.h]) (hn0:NoBox [(0,0)] mem) {y} (hp:zdu c=some y):∃ m,callo g20 0 20 [.one (.ptr (0,0) 0)] mem=some ((Res.res y.1).toS,m)∧(m (0,0)=some [cL .shr y.2.b,cI y.2.i,cI y.2.h]∧Tight 0 m∧NoBox [(0,0)] m):=by
 refine stD [.cell 2 27] Try.func20 fun QV QV_=>?_
 unfold zdu at hp
 have n_1:=hn0 (1,2) (by simp)
 obtain ⟨y_2,h_3,hp⟩:=zaa hp
 simp [Try.f20,hq0,n_1]
 refine zaj (0,0) (C18_eq h_3) g20_x18 (by simp [hq0]) (by simp) (by simp [hq0]) (.inr (by decide)) ?_
 have n_4:=hn0 (1,3) (by simp)
 obtain ⟨y_5,h_6,hp⟩:=zaa hp
 try simp [hq0,n_4]
 refine zaj (0,0) (zft h_6) g20_x45 (by simp [hq0]) (by simp) (by simp [hq0]) (.inr (by decide)) ?_
 try simp [hq0]
 rcases zad hp with ⟨h_7,hp⟩|⟨h_7,hp⟩
 ·try simp at h_7
  obtain ⟨_,h_8,hp⟩:=zaa hp
  have b_9:=zau h_8
  try simp at b_9
  cases hp
  simp [Goal,FnEndD,retR,rsrc,RSrc.val,nodupR,nodup,tupPart,hq0,h_7,b_9]
  rw [QV_]
  exact ⟨by simp [hq0,h_7,b_9],zbz _ _,zca (L':=[(0,0),(1,2),(1,3)]) (by intro k hk;simp at hk;simp [hk,hq0,h_7,b_9,hn0 k (by simp [hk])] <;> (intro hx;simp [hx]) <;> (intro hy;simp [hy])) (by simp)⟩
 ·try simp at h_7
  try simp [hq0,h_7]
  rcases zad hp with ⟨h_10,hp⟩|⟨h_10,hp⟩
  ·try simp at h_10
   try simp [hq0,h_7,h_10]
   rcases zad hp with ⟨h_11,hp⟩|⟨h_11,hp⟩
   ·try simp at h_11
    try simp [hq0,h_7,h_10,h_11]
    have n_12:=hn0 (1,1048) (by simp)
    obtain ⟨y_13,h_14,hp⟩:=zaa hp
    try simp [hq0,h_7,h_10,h_11,n_12]
    refine zaj (0,0) (C21_eq h_14) g20_x21 (by simp [hq0,h_7,h_10,h_11]) (by simp) (by simp [hq0,h_7,h_10,h_11]) (.inr (by decide)) ?_
    obtain ⟨e_15,h_16,hp⟩:=zaa hp
    have b_17:=at_lo h_16
    have b_18:=at_hi h_16
    try simp at b_17 b_18
    have c_19:=zcy h_16 3 (⟨e_15.vars,e_15.reach,e_15.shared,y_13.1⟩:TNode) [(cI y_13.1)] (by simp) rfl
    try simp at c_19
    have l_20:=zeh h_16 3 (m:=1) (by decide)
    try simp at l_20
    cases hp
    simp [Goal,FnEndD,retR,rsrc,RSrc.val,nodupR,nodup,tupPart,hq0,h_7,h_10,h_11,b_17,b_18,c_19,l_20]
    rw [QV_]
    exact ⟨by simp [hq0,h_7,h_10,h_11,b_17,b_18,c_19,l_20],zbz _ _,zca (L':=[(0,0),(1,2),(1,3)]) (by intro k hk;simp at hk;simp [hk,hq0,h_7,h_10,h_11,b_17,b_18,c_19,l_20,hn0 k (by simp [hk])] <;> (intro hx;simp [hx]) <;> (intro hy;simp [hy])) (by simp)⟩
   ·try simp at h_11
    cases hp
    simp [Goal,FnEndD,retR,rsrc,RSrc.val,nodupR,nodup,tupPart,hq0,h_7,h_10,h_11]
    rw [QV_]
    exact ⟨by simp [hq0,h_7,h_10,h_11],zbz _ _,zca (L':=[(0,0),(1,2),(1,3)]) (by intro k hk;simp at hk;simp [hk,hq0,h_7,h_10,h_11,hn0 k (by simp [hk])] <;> (intro hx;simp [hx]) <;> (intro hy;simp [hy])) (by simp)⟩
  ·try simp at h_10
   try simp [hq0,h_7,h_10]
   rcases zad hp with ⟨h_21,hp⟩|⟨h_21,hp⟩
   ·try simp at h_21
    try simp [hq0,h_7,h_10,h_21]
    rcases zad hp with ⟨h_22,hp⟩|⟨h_22,hp⟩
    ·try simp at h_22
     try simp [hq0,h_7,h_10,h_21,h_22]
     have n_23:=hn0 (1,1048) (by simp)
     obtain ⟨e_25,h_26,hp⟩:=zaa hp
     have c_27:=row_get h_26 0 (by decide) (d:=.sl e_25.vars.length (encL e_25.vars)) rfl
     obtain ⟨_,c_28⟩:=get_of c_27
     try simp at c_28 c_27
     have b_29:=at_lo h_26
     have b_30:=at_hi h_26
     try simp at b_29 b_30
     have n_24:=hn0 (1,108384) (by simp)
     try simp [hq0,h_7,h_10,h_21,h_22,n_23,c_27,c_28,b_29,b_30,n_24]
     obtain ⟨e_31,h_32,hp⟩:=zaa hp
     cases Option.some.inj (h_26.symm.trans h_32)
     have b_33:=at_lo h_26
     have b_34:=at_hi h_26
     try simp at b_33 b_34
     have c_35:=zoj h_26 0 (by decide) (.bs (1,108384) e_25.vars.length 1)
     try simp at c_35
     obtain ⟨y_36,h_37,hp⟩:=zaa hp
     try simp [hq0,h_7,h_10,h_21,h_22,b_33,b_34,c_35]
     refine zaj (0,0) (C21_eq h_37) g20_x21 (by simp [hq0,h_7,h_10,h_21,h_22]) (by simp) (by simp [hq0,h_7,h_10,h_21,h_22]) (.inr (by decide)) ?_
     obtain ⟨e_38,h_39,hp⟩:=zaa hp
     have b_40:=at_lo h_39
     have b_41:=at_hi h_39
     try simp at b_40 b_41
     have c_42:=zcy h_39 0 y_36.1 [(cI y_36.1)] (by simp) rfl
     try simp at c_42
     have l_43:=zeh h_39 0 (m:=1) (by decide)
     try simp at l_43
     have c_44:=zkt h_26 0 (by decide) (.bs (1,108384) (e_25.vars.set (0:Int).toNat y_36.1).length 1)
     obtain ⟨_,c_46⟩:=get_of c_44
     try simp at c_46 c_44
     have c_45:=zmg h_26 0 (⟨e_25.vars.set (0:Int).toNat y_36.1,e_25.reach,e_25.shared,e_25.many⟩:TNode) (c:=(cL .own (e_25.vars.set (0:Int).toNat y_36.1))) rfl
     try simp at c_45
     cases hp
     simp [Goal,FnEndD,retR,rsrc,RSrc.val,nodupR,nodup,tupPart,hq0,h_7,h_10,h_21,h_22,b_40,b_41,c_42,l_43,c_44,c_45,c_46]
     rw [QV_]
     exact ⟨by simp [hq0,h_7,h_10,h_21,h_22,b_40,b_41,c_42,l_43,c_44,c_45,c_46],zbz _ _,zca (L':=[(0,0),(1,2),(1,3)]) (by intro k hk;simp at hk;simp [hk,hq0,h_7,h_10,h_21,h_22,b_40,b_41,c_42,l_43,c_44,c_45,c_46,hn0 k (by simp [hk])] <;> (intro hx;simp [hx]) <;> (intro hy;simp [hy])) (by simp)⟩
    ·try simp at h_22
     cases hp
     simp [Goal,FnEndD,retR,rsrc,RSrc.val,nodupR,nodup,tupPart,hq0,h_7,h_10,h_21,h_22]
     rw [QV_]
     exact ⟨by simp [hq0,h_7,h_10,h_21,h_22],zbz _ _,zca (L':=[(0,0),(1,2),(1,3)]) (by intro k hk;simp at hk;simp [hk,hq0,h_7,h_10,h_21,h_22,hn0 k (by simp [hk])] <;> (intro hx;simp [hx]) <;> (intro hy;simp [hy])) (by simp)⟩
   ·try simp at h_21
    try simp [hq0,h_7,h_10,h_21]
    rcases zad hp with ⟨h_47,hp⟩|⟨h_47,hp⟩
    ·try simp at h_47
     try simp [hq0,h_7,h_10,h_21,h_47]
     rcases zad hp with ⟨h_48,hp⟩|⟨h_48,hp⟩
     ·try simp at h_48
      try simp [hq0,h_7,h_10,h_21,h_47,h_48]
      have n_49:=hn0 (1,1048) (by simp)
      obtain ⟨e_50,h_51,hp⟩:=zaa hp
      have b_52:=at_lo h_51
      have b_53:=at_hi h_51
      try simp at b_52 b_53
      have c_54:=seg_rowS h_51 1 1 (by decide) (ds:=[.sl e_50.reach.length (encL e_50.reach)]) rfl
      try simp at c_54
      obtain ⟨z_55,h_56,hp⟩:=zaa hp
      have c_58:=slc_1 h_56
      have c_60:=slc_3 h_56
      have c_61:=slc_4 h_56
      try simp at c_58 c_60
      try simp [c_60] at c_61
      obtain ⟨e_62,h_63,hp⟩:=zaa hp
      cases Option.some.inj (h_51.symm.trans h_63)
      have b_64:=at_lo h_51
      have b_65:=at_hi h_51
      try simp at b_64 b_65
      have c_66:=splice_rowS h_51 1 (⟨e_50.vars,z_55,e_50.shared,e_50.many⟩:TNode) [(cL .shr z_55)] (by simp) rfl
      try simp at c_66
      have l_67:=zeh h_51 1 (m:=1) (by decide)
      try simp at l_67
      have c_68:=rowS_top h_51 (⟨e_50.vars,z_55,e_50.shared,e_50.many⟩:TNode) (off:=0) rfl
      try simp at c_68
      cases hp
      simp [Goal,FnEndD,retR,rsrc,RSrc.val,nodupR,nodup,tupPart,hq0,h_7,h_10,h_21,h_47,h_48,n_49,b_52,b_53,c_54,c_58,c_60,c_61,b_64,b_65,c_66,l_67,c_68]
      rw [QV_]
      exact ⟨by simp [hq0,h_7,h_10,h_21,h_47,h_48,n_49,b_52,b_53,c_54,c_58,c_60,c_61,b_64,b_65,c_66,l_67,c_68],zbz _ _,zca (L':=[(0,0),(1,2),(1,3)]) (by intro k hk;simp at hk;simp [hk,hq0,h_7,h_10,h_21,h_47,h_48,n_49,b_52,b_53,c_54,c_58,c_60,c_61,b_64,b_65,c_66,l_67,c_68,hn0 k (by simp [hk])] <;> (intro hx;simp [hx]) <;> (intro hy;simp [hy])) (by simp)⟩
     ·try simp at h_48
      cases hp
      simp [Goal,FnEndD,retR,rsrc,RSrc.val,nodupR,nodup,tupPart,hq0,h_7,h_10,h_21,h_47,h_48]
      rw [QV_]
      exact ⟨by simp [hq0,h_7,h_10,h_21,h_47,h_48],zbz _ _,zca (L':=[(0,0),(1,2),(1,3)]) (by intro k hk;simp at hk;simp [hk,hq0,h_7,h_10,h_21,h_47,h_48,hn0 k (by simp [hk])] <;> (intro hx;simp [hx]) <;> (intro hy;simp [hy])) (by simp)⟩
    ·try simp at h_47
     cases hp
     simp [Goal,FnEndD,retR,rsrc,RSrc.val,nodupR,nodup,tupPart,hq0,h_7,h_10,h_21,h_47]
     rw [QV_]
     exact ⟨by simp [hq0,h_7,h_10,h_21,h_47],zbz _ _,zca (L':=[(0,0),(1,2),(1,3)]) (by intro k hk;simp at hk;simp [hk,hq0,h_7,h_10,h_21,h_47,hn0 k (by simp [hk])] <;> (intro hx;simp [hx]) <;> (intro hy;simp [hy])) (by simp)⟩
theorem px20:PX Try.prog 20 C20:=px_ofS (g:=g20) (zfs [] rfl trivial [] rfl trivial [] rfl trivial [(18,C18),(21,C21),(45,C45)] rfl ⟨px18,px21,px45,trivial⟩) (ent Try.func20) fun x t y h=>by
 obtain ⟨m,h1,h2,_,h3⟩:=w20 (mem:=upd mem0 (0,0) (some (bxT t))) (Tight.upd (zak _) (by simp) (by simp)) (by simp [upd,bxT]) (zgb _ _) h
 exact ⟨m,h1,h2,h3⟩

def C5:List AV→Option AV:=specPS (X:=(List U8) × Unit) fun x=>zbj x.1
theorem C5_eq {code} {y} (h:zbj code=some y):C5 [av .shr code]=some ((Res.res y).toS):=zli (x:=(code,())) h
def g5:Cfg:={ P:=Try.prog,take:=[(5,16)],keep:=[],gho:=[((5,5),[.shareM (1,5)])],ctx:=[],away:=[(5,14,4000000)],give:=[(5,7)],bctx:=[(17,C17)],pctx:=[(18,C18),(19,C19),(20,C20),(21,C21)] }
@[simp] theorem g5_s:type_of% (cfg_s (g:=g5) rfl):=cfg_s rfl
theorem g5_x18:PxOK g5 18 C18:=⟨rfl,rfl,Try.f18,Try.f18.body.getD .skip,Try.func18,by kernel_rfl⟩
theorem g5_x19:PxOK g5 19 C19:=⟨rfl,rfl,Try.f19,Try.f19.body.getD .skip,Try.func19,by kernel_rfl⟩
theorem g5_x20:PxOK g5 20 C20:=⟨rfl,rfl,Try.f20,Try.f20.body.getD .skip,Try.func20,by kernel_rfl⟩
theorem g5_x21:PxOK g5 21 C21:=⟨rfl,rfl,Try.f21,Try.f21.body.getD .skip,Try.func21,by kernel_rfl⟩
@[simp] theorem g5_wa (d f dst key):awayB g5 d f dst key=awayL [(5,14,4000000)] d f dst key:=rfl
@[simp] theorem g5_wl (d f a key):lateB g5 d f a key=lateL [(5,14,4000000)] d f a key:=rfl
theorem w5 {code} {y} (hp:zbj code=some y):∃ m,callo g5 0 5 [av .shr code] mem0=some ((Res.res y).toS,m):=by
 refine st0 [.cell 2 27,.tmp 3] Try.func5 ?_
 unfold zbj at hp
 obtain ⟨y_1,h_2,hp⟩:=zaa hp
 simp [Try.f5]
 refine goal_new (1,5000007) (C17_eq h_2) (by rfl) (by rfl) (by simp) (by simp) (by rfl) (by simp [mem0]) ?_
 obtain ⟨y_3,h_4,hp⟩:=zaa hp
 try simp
 refine zaj (1,5000007) (C18_eq h_4) g5_x18 (by simp) (by simp) (by simp) (.inr (by decide)) ?_
 obtain ⟨y_5,h_6,hp⟩:=zaa hp
 try simp
 refine zaj (1,5000007) (C19_eq h_6) g5_x19 (by simp) (by simp) (by simp) (.inr (by decide)) ?_
 try simp
 rcases zad hp with ⟨h_7,hp⟩|⟨h_7,hp⟩
 ·try simp at h_7
  obtain ⟨y_8,h_9,hp⟩:=zaa hp
  try simp [h_7]
  refine zaj (1,5000007) (C20_eq h_9) g5_x20 (by simp [h_7]) (by simp) (by simp [h_7]) (.inr (by decide)) ?_
  obtain ⟨y_10,h_11,hp⟩:=zaa hp
  try simp [h_7]
  refine zaj (1,5000007) (C21_eq h_11) g5_x21 (by simp [h_7]) (by simp) (by simp [h_7]) (.inr (by decide)) ?_
  cases hp
  simp [Goal,FnEnd,retR,rsrc,RSrc.val,nodupR,nodup,tupPart,h_7]
 ·try simp at h_7
  obtain ⟨y_12,h_13,hp⟩:=zaa hp
  try simp [h_7]
  refine zaj (1,5000007) (C21_eq h_13) g5_x21 (by simp [h_7]) (by simp) (by simp [h_7]) (.inr (by decide)) ?_
  cases hp
  simp [Goal,FnEnd,retR,rsrc,RSrc.val,nodupR,nodup,tupPart,h_7]
theorem pc5:PC Try.prog 5 C5:=pc_ofS (g:=g5) (zfs [] rfl trivial [] rfl trivial [(17,C17)] rfl ⟨bc17,trivial⟩ [(18,C18),(19,C19),(20,C20),(21,C21)] rfl ⟨px18,px19,px20,px21,trivial⟩) (ent Try.func5) fun x y h=>w5 h

def C48:List AV→Option AV:=specP (X:=Int × Int × Int × Unit) fun x=>zdl x.1 x.2.1 x.2.2.1
theorem C48_eq {n_ low high} {y} (h:zdl n_ low high=some y):C48 [av .shr n_,av .shr low,av .shr high]=some (Res.res y):=zai (x:=(n_,low,high,())) h
def g48:Cfg:={ P:=Try.prog,take:=[],keep:=[],gho:=[],ctx:=[] }
@[simp] theorem g48_s:type_of% (cfg_s (g:=g48) rfl):=cfg_s rfl
theorem w48 {n_ low high} {y} (hp:zdl n_ low high=some y):∃ m,callo g48 0 48 [av .shr n_,av .shr low,av .shr high] mem0=some (Res.res y,m):=by
 refine st0 [.tmp 6] Try.func48 ?_
 unfold zdl at hp
 simp [Try.f48]
 rcases zad hp with ⟨h_1,hp⟩|⟨h_1,hp⟩
 ·try simp at h_1
  cases hp
  simp [Goal,FnEnd,h_1]
 ·try simp at h_1
  cases hp
  simp [Goal,FnEnd,h_1]
theorem pc48:PC Try.prog 48 C48:=pc_of (g:=g48) (zah [] rfl trivial) (ent Try.func48) fun x y h=>w48 h

def C55:List AV→Option AV:=specP (X:=TStructure × Int × Unit) fun x=>zbe x.1 x.2.1
theorem C55_eq {s i} {y} (h:zbe s i=some y):C55 [av .shr s,av .shr i]=some (Res.res y):=zai (x:=(s,i,())) h
def g55:Cfg:={ P:=Try.prog,take:=[],keep:=[],gho:=[],ctx:=[(48,C48)] }
@[simp] theorem g55_s:type_of% (cfg_s (g:=g55) rfl):=cfg_s rfl
theorem w55 {s i} {y} (hp:zbe s i=some y):∃ m,callo g55 0 55 [av .shr s,av .shr i] mem0=some (Res.res y,m):=by
 refine st0 [.tmp 4] Try.func55 ?_
 unfold zbe at hp
 obtain ⟨y_1,h_2,hp⟩:=zaa hp
 have c_3:=C48_eq h_2
 simp at c_3
 cases hp
 simp [Try.f55,Goal,FnEnd,c_3]
theorem pc55:PC Try.prog 55 C55:=pc_of (g:=g55) (zah _ g55_s.2.1 ⟨pc48,trivial⟩) (ent Try.func55) fun x y h=>w55 h

def C26:List AV→Option AV:=specP (X:=TStructure × Int × Int × Unit) fun x=>zec x.1 x.2.1 x.2.2.1
theorem C26_eq {s i j} {y} (h:zec s i j=some y):C26 [av .shr s,av .shr i,av .shr j]=some (Res.res y):=zai (x:=(s,i,j,())) h
def g26:Cfg:={ P:=Try.prog,take:=[],keep:=[],gho:=[],ctx:=[(55,C55)] }
@[simp] theorem g26_s:type_of% (cfg_s (g:=g26) rfl):=cfg_s rfl
theorem w26 {s i j} {y} (hp:zec s i j=some y):∃ m,callo g26 0 26 [av .shr s,av .shr i,av .shr j] mem0=some (Res.res y,m):=by
 refine st0 [.tmp 6] Try.func26 ?_
 unfold zec at hp
 obtain ⟨y_1,h_2,hp⟩:=zaa hp
 have c_3:=C55_eq h_2
 simp at c_3
 simp [Try.f26,c_3]
 rcases zad hp with ⟨h_4,hp⟩|⟨h_4,hp⟩
 ·try simp at h_4
  obtain ⟨y_5,h_6,hp⟩:=zaa hp
  have c_7:=C55_eq h_6
  simp at c_7
  try simp [h_4,c_7]
  rcases zad hp with ⟨h_8,hp⟩|⟨h_8,hp⟩
  ·try simp at h_8
   try simp [h_4,h_8]
   rcases zad hp with ⟨h_9,hp⟩|⟨h_9,hp⟩
   ·try simp at h_9
    cases hp
    simp [Goal,FnEnd,h_4,h_8,h_9]
   ·try simp at h_9
    obtain ⟨e_10,h_11,hp⟩:=zaa hp
    have b_12:=at_lo h_11
    have b_13:=at_hi h_11
    try simp at b_12 b_13
    have c_14:=seg_at' h_11 0 1 (by decide) (ds:=[.sc (.int .i64 e_10)]) rfl
    try simp at c_14
    cases hp
    simp [Goal,FnEnd,h_4,h_8,h_9,b_12,b_13,c_14]
  ·try simp at h_8
   cases hp
   simp [Goal,FnEnd,h_4,h_8]
 ·try simp at h_4
  cases hp
  simp [Goal,FnEnd,h_4]
theorem pc26:PC Try.prog 26 C26:=pc_of (g:=g26) (zah _ g26_s.2.1 ⟨pc55,trivial⟩) (ent Try.func26) fun x y h=>w26 h

abbrev G46 (g:Cfg):Prop:=Has Try.prog g 46 Try.f46 [] [(2,{ hd:=[0,1,7,8],bx:=[],ex:=[],rt:=[4] })] [] []
theorem wI46 {g:Cfg} (G:G46 g) {d:Nat} {mem:Mem} (hT:Tight d mem)  {s:(List TNode)} {f_:(TNode→Option (Bool))} {m_0:Md} (hm_0:LentM m_0) {fk_f_:Nat} {caps_f_:List (Key × Nat)} (hl_f_:∀ c∈caps_f_,c.1.1≤d) (hc_f_:Clo g d mem fk_f_ caps_f_ fun x:TNode × Unit=>f_ x.1) {y} (hp:zbd s f_=some y):callo g d 46 [av m_0 s,.one (.fn fk_f_ caps_f_)] mem=some (Res.res y,mem):=by
 have gP:=G.P;have gt:=G.tk;have gr:=G.ro;have gg:=G.gh
 have k_2:=G.kp (2,{ hd:=[0,1,7,8],bx:=[],ex:=[],rt:=[4] }) (by simp)
 have hT2:memKill (fun k=>decide (d < k.1)) mem=mem:=hT
 refine zgw (Try.f46.body.getD .skip) [.tmp 4] G Try.func46 (by kernel_rfl) (by simp [Try.ntmps46]) rfl ?_
 unfold zbd at hp
 simp [Try.f46,gP,gt,gr,gg,hm_0.copy,hm_0.elem]
 obtain ⟨r_18,h_19,hp⟩:=zaa hp
 obtain ⟨I_3,I_3_⟩:=exV fun (s_1:Int) (σ:St)=>(σ.env 0=uL m_0 s∧σ.env 7=uI (s.length:Int)∧σ.env 8=uI s_1)∧σ.env 1=.one (.fn fk_f_ caps_f_)∧σ.mem=mem
 obtain ⟨X_4,X_4_⟩:=exV fun (r_18:(Int) ⊕ (Unit)) (out:Out)=>Sum.elim (fun r_18=>∃ σ:St,out=.ret σ∧σ.env 4=uI r_18∧σ.mem=mem) (fun r_18=>∃ σ:St,out=.exit 0 σ∧σ.mem=mem) r_18
 refine loopP ({ hd:=[0,1,7,8],bx:=[],ex:=[],rt:=[4] }) I_3 X_4 h_19 (by exact k_2) ?_ ?_ ?_
 ·rw [I_3_]
  exact ⟨by simp [zac,zab,gP,gt,gr,gg,hm_0.copy,hm_0.elem],by simp [zac,gP,gt,gr,gg,hm_0.copy,hm_0.elem] <;> first | (intro x x1 x2 hx;have h0:=hl_f_ _ hx;simp at h0;omega) | (intro x hx;have h0:=hl_f_ _ hx;simp at h0;omega),by simp [zab,gP,gt,gr,gg,hm_0.copy,hm_0.elem]⟩
 ·intro s_1 σ_5 a_2 hI hp
  rw [I_3_] at hI
  obtain ⟨q_8,q_6,q_7⟩:=hI
  try simp [gP,gt,gr,gg,hm_0.copy,hm_0.elem,q_8,q_6,q_7]
  rcases zad hp with ⟨h_9,hp⟩|⟨h_9,hp⟩
  ·try simp at h_9
   obtain ⟨e_10,h_11,hp⟩:=zaa hp
   have b_12:=at_lo h_11
   have b_13:=at_hi h_11
   try simp at b_12 b_13
   have c_14:=seg_at' h_11 0 4 (by decide) (ds:=[.sl e_10.vars.length (encL e_10.vars),.sl e_10.reach.length (encL e_10.reach),.sc (.int .i64 e_10.shared),.sc (.int .i64 e_10.many)]) rfl
   try simp at c_14
   obtain ⟨y_15,h_16,hp⟩:=zaa hp
   try simp [gP,gt,gr,gg,hm_0.copy,hm_0.elem,q_8,q_6,q_7,h_9,b_12,b_13,c_14]
   refine zge ([av m_0 e_10] ++ capsAV caps_f_) (Res.res y_15) (by simp [capsAV,gP,gt,gr,gg,hm_0.copy,hm_0.elem,q_8,q_6,q_7,h_9]) (hc_f_ _ _ _ (e_10,()) _ (Nat.le_succ d) (fun k hk=>by first | rfl | rw [q_7]) (by repeat (first | exact zak _ | exact hT.up | exact hT | (simp only [q_8,q_6,q_7];done) | refine Tight.upd ?_ (by simp) (by simp) | refine Tight.killB ?_ | refine zar ?_)) ⟨_,_,hm_0,rfl,rfl⟩ h_16) ?_
   try simp [gP,gt,gr,gg,hm_0.copy,hm_0.elem,q_8,q_6,q_7,h_9]
   rcases zad hp with ⟨h_17,hp⟩|⟨h_17,hp⟩
   ·try simp at h_17
    cases hp
    try simp [gP,gt,gr,gg,hm_0.copy,hm_0.elem,q_8,q_6,q_7,h_9,h_17]
    refine zaq ?_
    rw [X_4_]
    exact ⟨_,rfl,by simp [zac,zab,gP,gt,gr,gg,hm_0.copy,hm_0.elem,q_8,q_6,q_7,h_9,h_17],by simp [zab,gP,gt,gr,gg,hm_0.copy,hm_0.elem,q_8,q_6,q_7,h_9,h_17]⟩
   ·try simp at h_17
    cases hp
    try simp [gP,gt,gr,gg,hm_0.copy,hm_0.elem,q_8,q_6,q_7,h_9,h_17]
    refine zae ?_
    rw [I_3_]
    exact ⟨by simp [zac,zab,gP,gt,gr,gg,hm_0.copy,hm_0.elem,q_8,q_6,q_7,h_9,h_17],by simp [zac,gP,gt,gr,gg,hm_0.copy,hm_0.elem,q_8,q_6,q_7,h_9,h_17] <;> first | (intro x x1 x2 hx;have h0:=hl_f_ _ hx;simp at h0;omega) | (intro x hx;have h0:=hl_f_ _ hx;simp at h0;omega),by simp [zab,gP,gt,gr,gg,hm_0.copy,hm_0.elem,q_8,q_6,q_7,h_9,h_17]⟩
  ·try simp at h_9
   cases hp
   try simp [gP,gt,gr,gg,hm_0.copy,hm_0.elem,q_8,q_6,q_7,h_9]
   refine zag ?_
   rw [X_4_]
   exact ⟨_,rfl,by simp [zab,gP,gt,gr,gg,hm_0.copy,hm_0.elem,q_8,q_6,q_7,h_9]⟩
 ·intro out hX
  rw [X_4_] at hX
  rcases r_18 with r_18 | r_18
  ·simp only [Sum.elim_inl,Sum.elim_inr] at hX hp
   obtain ⟨σ_20,rfl,q_22,q_21⟩:=hX
   cases hp
   simp [Goal,FnEndI,zaw,gP,gt,gr,gg,hm_0.copy,hm_0.elem,q_22,q_21,hT2]
  ·simp only [Sum.elim_inl,Sum.elim_inr] at hX hp
   obtain ⟨σ_23,rfl,q_24⟩:=hX
   cases hp
   simp [Goal,FnEndI,zaw,gP,gt,gr,gg,hm_0.copy,hm_0.elem,q_24,hT2]

abbrev G47 (g:Cfg):Prop:=Has Try.prog g 47 Try.f47 [] [] [(48,C48)] []
theorem wI47 {g:Cfg} (G:G47 g) {d:Nat} {mem:Mem} (hT:Tight d mem) {K_1:Key} {x_:TNode} {c0:Int} {m_0:Md} (hm_0:LentM m_0) (hk_1:K_1.1≤d) (hb_1:mem K_1=some [cI c0]) {y} (hp:zcw x_ c0=some y):callo g d 47 [av m_0 x_,.one (.ptr K_1 0)] mem=some (Res.res y,mem):=by
 have gP:=G.P;have gt:=G.tk;have gr:=G.ro;have gg:=G.gh
 have c_48:=G.cs (48,C48) (by simp)
 have hT2:memKill (fun k=>decide (d < k.1)) mem=mem:=hT
 have hm0:∀ t,mem (d+1,t)=none:=fun t=>hT.none (by simp)
 have nk_1:∀ t,(K_1=(d+1,t))=False:=fun t=>by simp;intro h;rw [h] at hk_1;simp at hk_1;omega
 refine zgw (Try.f47.body.getD .skip) [.tmp 3] G Try.func47 (by kernel_rfl) (by simp [Try.ntmps47]) rfl ?_
 unfold zcw at hp
 obtain ⟨y_1,h_2,hp⟩:=zaa hp
 have c_3:=C48_eq h_2
 simp at c_3
 simp [Try.f47,gP,gt,gr,gg,hm0,c_48,hm_0.copy,hm_0.elem,hb_1,nk_1,c_3]
 rcases zad hp with ⟨h_4,hp⟩|⟨h_4,hp⟩
 ·try simp at h_4
  obtain ⟨e_5,h_6,hp⟩:=zaa hp
  have b_7:=at_lo h_6
  have b_8:=at_hi h_6
  try simp at b_7 b_8
  have c_9:=seg_at' h_6 0 1 (by decide) (ds:=[.sc (.int .i64 e_5)]) rfl
  try simp at c_9
  try simp [gP,gt,gr,gg,hm0,c_48,hm_0.copy,hm_0.elem,hb_1,nk_1,h_4,b_7,b_8,c_9]
  rcases zad hp with ⟨h_10,hp⟩|⟨h_10,hp⟩
  ·try simp at h_10
   cases hp
   simp [Goal,FnEndI,zaw,gP,gt,gr,gg,hm0,c_48,hm_0.copy,hm_0.elem,hb_1,nk_1,h_4,h_10,hT2]
  ·try simp at h_10
   cases hp
   simp [Goal,FnEndI,zaw,gP,gt,gr,gg,hm0,c_48,hm_0.copy,hm_0.elem,hb_1,nk_1,h_4,h_10,hT2]
 ·try simp at h_4
  cases hp
  simp [Goal,FnEndI,zaw,gP,gt,gr,gg,hm0,c_48,hm_0.copy,hm_0.elem,hb_1,nk_1,h_4,hT2]

def C22:List AV→Option AV:=specP (X:=TStructure × Int × Unit) fun x=>zdv x.1 x.2.1
theorem C22_eq {s k_} {y} (h:zdv s k_=some y):C22 [av .shr s,av .shr k_]=some (Res.res y):=zai (x:=(s,k_,())) h
def g22:Cfg:={ P:=Try.prog,take:=[(22,29),(22,35)],keep:=[((22,4),{ hd:=[2,6,7,16,17],bx:=[],ex:=[6,7],rt:=[4,5] }),((46,2),{ hd:=[0,1,7,8],bx:=[],ex:=[],rt:=[4] })],gho:=[],ctx:=[(26,C26),(48,C48)] }
@[simp] theorem g22_s:type_of% (cfg_s (g:=g22) rfl):=cfg_s rfl
theorem w22 {s k_} {y} (hp:zdv s k_=some y):∃ m,callo g22 0 22 [av .shr s,av .shr k_] mem0=some (Res.res y,m):=by
 have G_46:G46 g22:=⟨rfl,by kernel_rfl,rfl,fun t=>by simp,noAway (fun t=>by simp) (by simp) (fun t=>by simp),by simp [lookN],fun i=>by simp [lookK],by simp [g22,lookK],by simp⟩
 have G_47:G47 g22:=⟨rfl,by kernel_rfl,rfl,fun t=>by simp,noAway (fun t=>by simp) (by simp) (fun t=>by simp),by simp [lookN],fun i=>by simp [lookK],by simp [g22,lookK],by simp⟩
 refine st0 [.tmp 4,.tmp 5] Try.func22 ?_
 unfold zdv at hp
 obtain ⟨y_1,h_2,hp⟩:=zaa hp
 simp [Try.f22]
 refine zge [av .shr s.nodes,.one (.fn 47 [((1,3),0)])] (Res.res y_1) (by simp) (wI46 G_46 (by repeat (first | exact zak _ | exact hT.up | exact hT | (simp only [true_and];done) | refine Tight.upd ?_ (by simp) (by simp) | refine Tight.killB ?_ | refine zar ?_)) (.inl rfl) (by simp) (clo1 (p:=fun x0=>zcw x0 k_) fun d2 mem2 m0 x0 r2 hd2 ha2 hT2 hm0 hr2=>wI47 G_47 hT2 hm0 (show 1≤d2 from hd2) ((ha2 _ (Nat.le_refl _)).trans (by simp)) hr2) h_2) ?_
 try simp
 obtain ⟨r_19,h_20,hp⟩:=zaa hp
 obtain ⟨I_5,I_5_⟩:=exV fun (s_3:(List Int) × Int) (σ:St)=>(σ.env 2=uP (1,2)∧σ.env 6=uI y_1∧σ.env 7=uL .own s_3.1∧σ.env 16=uI (s.nodes.length:Int)∧σ.env 17=uI s_3.2∧σ.mem (1,2)=some [cL .shr s.nodes,cL .shr s.next]∧σ.mem (1,3)=some [cI k_])∧Tight (1) σ.mem∧NoBox [(1,2),(1,3)] σ.mem
 obtain ⟨X_6,X_6_⟩:=exV fun (r_19:(List Int)) (out:Out)=>∃ σ:St,out=.exit 0 σ∧(σ.env 6=uI y_1∧σ.env 7=uL .own r_19∧σ.mem (1,2)=some [cL .shr s.nodes,cL .shr s.next]∧σ.mem (1,3)=some [cI k_])∧Tight (1) σ.mem∧NoBox [(1,2),(1,3)] σ.mem
 refine loopP ({ hd:=[2,6,7,16,17],bx:=[],ex:=[6,7],rt:=[4,5] }) I_5 X_6 h_20 (by exact rfl) ?_ ?_ ?_
 ·rw [I_5_]
  exact ⟨by simp [zac,zab],(by repeat (first | exact zak _ | exact hT.up | exact hT | refine Tight.restrict ?_ | refine Tight.upd ?_ (by simp) (by simp) | refine Tight.killB ?_ | refine zar ?_)),NoBox.restrict (by intro k hk hb;simp at hk hb;simp [hk,hb])⟩
 ·intro s_3 σ_7 a_4 hI hp
  rw [I_5_] at hI
  obtain ⟨q_10,ht_8,hn_9⟩:=hI
  try simp [q_10]
  rcases zad hp with ⟨h_11,hp⟩|⟨h_11,hp⟩
  ·try simp at h_11
   try simp [q_10,h_11]
   rcases zad hp with ⟨h_12,hp⟩|⟨h_12,hp⟩
   ·try simp at h_12
    obtain ⟨y_13,h_14,hp⟩:=zaa hp
    have c_15:=C26_eq h_14
    simp at c_15
    try simp [q_10,h_11,h_12,c_15]
    rcases zad hp with ⟨h_16,hp⟩|⟨h_16,hp⟩
    ·try simp at h_16
     obtain ⟨_,h_17,hp⟩:=zaa hp
     have b_18:=zau h_17
     try simp at b_18
     cases hp
     try simp [q_10,h_11,h_12,h_16,b_18]
     refine zae ?_
     rw [I_5_]
     exact ⟨by simp [zac,zab,q_10,h_11,h_12,h_16,b_18],(by repeat (first | exact ht_8 | exact zak _ | exact hT.up | exact hT | refine Tight.restrict ?_ | refine Tight.upd ?_ (by simp) (by simp) | refine Tight.killB ?_ | refine zar ?_)),NoBox.restrict (by intro k hk hb;simp at hk hb;simp [hk,hb,q_10,h_11,h_12,h_16,b_18,hn_9 k (by simp [hk,hb])])⟩
    ·try simp at h_16
     cases hp
     try simp [q_10,h_11,h_12,h_16]
     refine zae ?_
     rw [I_5_]
     exact ⟨by simp [zac,zab,q_10,h_11,h_12,h_16],(by repeat (first | exact ht_8 | exact zak _ | exact hT.up | exact hT | refine Tight.restrict ?_ | refine Tight.upd ?_ (by simp) (by simp) | refine Tight.killB ?_ | refine zar ?_)),NoBox.restrict (by intro k hk hb;simp at hk hb;simp [hk,hb,q_10,h_11,h_12,h_16,hn_9 k (by simp [hk,hb])])⟩
   ·try simp at h_12
    cases hp
    try simp [q_10,h_11,h_12]
    refine zae ?_
    rw [I_5_]
    exact ⟨by simp [zac,zab,q_10,h_11,h_12],(by repeat (first | exact ht_8 | exact zak _ | exact hT.up | exact hT | refine Tight.restrict ?_ | refine Tight.upd ?_ (by simp) (by simp) | refine Tight.killB ?_ | refine zar ?_)),NoBox.restrict (by intro k hk hb;simp at hk hb;simp [hk,hb,q_10,h_11,h_12,hn_9 k (by simp [hk,hb])])⟩
  ·try simp at h_11
   cases hp
   try simp [q_10,h_11]
   refine zag ?_
   rw [X_6_]
   exact ⟨_,rfl,by simp [zac,zab,q_10,h_11],(by repeat (first | exact ht_8 | exact zak _ | exact hT.up | exact hT | refine Tight.restrict ?_ | refine Tight.upd ?_ (by simp) (by simp) | refine Tight.killB ?_ | refine zar ?_)),NoBox.restrict (by intro k hk hb;simp at hk hb;simp [hk,hb,q_10,h_11,hn_9 k (by simp [hk,hb])])⟩
 ·intro out hX
  rw [X_6_] at hX
  obtain ⟨σ_21,rfl,q_24,ht_22,hn_23⟩:=hX
  cases hp
  simp [Goal,FnEnd,retR,rsrc,RSrc.val,nodupR,nodup,tupPart,q_24]
theorem pc22:PC Try.prog 22 C22:=pc_of (g:=g22) (zah _ g22_s.2.1 ⟨pc26,pc48,trivial⟩) (ent Try.func22) fun x y h=>w22 h

def C24:List AV→Option AV:=specP (X:=TStructure × Unit) fun x=>zeg x.1
theorem C24_eq {s} {y} (h:zeg s=some y):C24 [av .shr s]=some (Res.res y):=zai (x:=(s,())) h
def g24:Cfg:={ P:=Try.prog,take:=[],keep:=[],gho:=[],ctx:=[] }
@[simp] theorem g24_s:type_of% (cfg_s (g:=g24) rfl):=cfg_s rfl
theorem w24 {s} {y} (hp:zeg s=some y):∃ m,callo g24 0 24 [av .shr s] mem0=some (Res.res y,m):=by
 refine st0 [.tmp 2] Try.func24 ?_
 unfold zeg at hp
 simp [Try.f24]
 rcases zad hp with ⟨h_1,hp⟩|⟨h_1,hp⟩
 ·try simp at h_1
  cases hp
  simp [Goal,FnEnd,h_1]
 ·try simp at h_1
  obtain ⟨e_2,h_3,hp⟩:=zaa hp
  have b_5:=at_hi h_3
  try simp at b_5
  have c_6:=seg_at' h_3 0 1 (by decide) (ds:=[.sl e_2.vars.length (encL e_2.vars)]) rfl
  try simp at c_6
  cases hp
  simp [Goal,FnEnd,h_1,b_5,c_6]
theorem pc24:PC Try.prog 24 C24:=pc_of (g:=g24) (zah [] rfl trivial) (ent Try.func24) fun x y h=>w24 h

def C52:List AV→Option AV:=specP (X:=Int × Unit) fun x=>zdw x.1
theorem C52_eq {a_} {y} (h:zdw a_=some y):C52 [av .shr a_]=some (Res.res y):=zai (x:=(a_,())) h
def g52:Cfg:={ P:=Try.prog,take:=[],keep:=[],gho:=[],ctx:=[(48,C48)] }
@[simp] theorem g52_s:type_of% (cfg_s (g:=g52) rfl):=cfg_s rfl
theorem w52 {a_} {y} (hp:zdw a_=some y):∃ m,callo g52 0 52 [av .shr a_] mem0=some (Res.res y,m):=by
 refine st0 [.tmp 2] Try.func52 ?_
 unfold zdw at hp
 obtain ⟨y_1,h_2,hp⟩:=zaa hp
 have c_3:=C48_eq h_2
 simp at c_3
 cases hp
 simp [Try.f52,Goal,FnEnd,c_3]
theorem pc52:PC Try.prog 52 C52:=pc_of (g:=g52) (zah _ g52_s.2.1 ⟨pc48,trivial⟩) (ent Try.func52) fun x y h=>w52 h

def C73:List AV→Option AV:=specP (X:=Int × Unit) fun x=>zda x.1
def g73:Cfg:={ P:=Try.prog,take:=[],keep:=[],gho:=[],ctx:=[(52,C52)] }
@[simp] theorem g73_s:type_of% (cfg_s (g:=g73) rfl):=cfg_s rfl
theorem w73 {a_} {y} (hp:zda a_=some y):∃ m,callo g73 0 73 [av .shr a_] mem0=some (Res.res y,m):=by
 refine st0 [.tmp 2] Try.func73 ?_
 unfold zda at hp
 obtain ⟨y_1,h_2,hp⟩:=zaa hp
 have c_3:=C52_eq h_2
 simp at c_3
 cases hp
 simp [Try.f73,Goal,FnEnd,c_3]
theorem pc73:PC Try.prog 73 C73:=pc_of (g:=g73) (zah _ g73_s.2.1 ⟨pc52,trivial⟩) (ent Try.func73) fun x y h=>w73 h

abbrev G80 (g:Cfg):Prop:=Has Try.prog g 80 Try.f80 [] [(2,{ hd:=[0,1,7,8],bx:=[],ex:=[],rt:=[4] })] [] []
theorem wI80 {g:Cfg} (G:G80 g) {d:Nat} {mem:Mem} (hT:Tight d mem)  {s:(List Int)} {f_:(Int→Option (Bool))} {m_0:Md} (hm_0:LentM m_0) {fk_f_:Nat} {caps_f_:List (Key × Nat)} (hl_f_:∀ c∈caps_f_,c.1.1≤d) (hc_f_:Clo g d mem fk_f_ caps_f_ fun x:Int × Unit=>f_ x.1) {y} (hp:zdn s f_=some y):callo g d 80 [av m_0 s,.one (.fn fk_f_ caps_f_)] mem=some (Res.res y,mem):=by
 have gP:=G.P;have gt:=G.tk;have gr:=G.ro;have gg:=G.gh
 have k_2:=G.kp (2,{ hd:=[0,1,7,8],bx:=[],ex:=[],rt:=[4] }) (by simp)
 have hT2:memKill (fun k=>decide (d < k.1)) mem=mem:=hT
 refine zgw (Try.f80.body.getD .skip) [.tmp 4] G Try.func80 (by kernel_rfl) (by simp [Try.ntmps80]) rfl ?_
 unfold zdn at hp
 simp [Try.f80,gP,gt,gr,gg,hm_0.copy,hm_0.elem]
 obtain ⟨r_18,h_19,hp⟩:=zaa hp
 obtain ⟨I_3,I_3_⟩:=exV fun (s_1:Int) (σ:St)=>(σ.env 0=uL m_0 s∧σ.env 7=uI (s.length:Int)∧σ.env 8=uI s_1)∧σ.env 1=.one (.fn fk_f_ caps_f_)∧σ.mem=mem
 obtain ⟨X_4,X_4_⟩:=exV fun (r_18:(Int) ⊕ (Unit)) (out:Out)=>Sum.elim (fun r_18=>∃ σ:St,out=.ret σ∧σ.env 4=uI r_18∧σ.mem=mem) (fun r_18=>∃ σ:St,out=.exit 0 σ∧σ.mem=mem) r_18
 refine loopP ({ hd:=[0,1,7,8],bx:=[],ex:=[],rt:=[4] }) I_3 X_4 h_19 (by exact k_2) ?_ ?_ ?_
 ·rw [I_3_]
  exact ⟨by simp [zac,zab,gP,gt,gr,gg,hm_0.copy,hm_0.elem],by simp [zac,gP,gt,gr,gg,hm_0.copy,hm_0.elem] <;> first | (intro x x1 x2 hx;have h0:=hl_f_ _ hx;simp at h0;omega) | (intro x hx;have h0:=hl_f_ _ hx;simp at h0;omega),by simp [zab,gP,gt,gr,gg,hm_0.copy,hm_0.elem]⟩
 ·intro s_1 σ_5 a_2 hI hp
  rw [I_3_] at hI
  obtain ⟨q_8,q_6,q_7⟩:=hI
  try simp [gP,gt,gr,gg,hm_0.copy,hm_0.elem,q_8,q_6,q_7]
  rcases zad hp with ⟨h_9,hp⟩|⟨h_9,hp⟩
  ·try simp at h_9
   obtain ⟨e_10,h_11,hp⟩:=zaa hp
   have b_12:=at_lo h_11
   have b_13:=at_hi h_11
   try simp at b_12 b_13
   have c_14:=seg_at' h_11 0 1 (by decide) (ds:=[.sc (.int .i64 e_10)]) rfl
   try simp at c_14
   obtain ⟨y_15,h_16,hp⟩:=zaa hp
   try simp [gP,gt,gr,gg,hm_0.copy,hm_0.elem,q_8,q_6,q_7,h_9,b_12,b_13,c_14]
   refine zge ([av .shr e_10] ++ capsAV caps_f_) (Res.res y_15) (by simp [capsAV,gP,gt,gr,gg,hm_0.copy,hm_0.elem,q_8,q_6,q_7,h_9]) (hc_f_ _ _ _ (e_10,()) _ (Nat.le_succ d) (fun k hk=>by first | rfl | rw [q_7]) (by repeat (first | exact zak _ | exact hT.up | exact hT | (simp only [q_8,q_6,q_7];done) | refine Tight.upd ?_ (by simp) (by simp) | refine Tight.killB ?_ | refine zar ?_)) ⟨_,_,(.inl rfl),rfl,rfl⟩ h_16) ?_
   try simp [gP,gt,gr,gg,hm_0.copy,hm_0.elem,q_8,q_6,q_7,h_9]
   rcases zad hp with ⟨h_17,hp⟩|⟨h_17,hp⟩
   ·try simp at h_17
    cases hp
    try simp [gP,gt,gr,gg,hm_0.copy,hm_0.elem,q_8,q_6,q_7,h_9,h_17]
    refine zaq ?_
    rw [X_4_]
    exact ⟨_,rfl,by simp [zac,zab,gP,gt,gr,gg,hm_0.copy,hm_0.elem,q_8,q_6,q_7,h_9,h_17],by simp [zab,gP,gt,gr,gg,hm_0.copy,hm_0.elem,q_8,q_6,q_7,h_9,h_17]⟩
   ·try simp at h_17
    cases hp
    try simp [gP,gt,gr,gg,hm_0.copy,hm_0.elem,q_8,q_6,q_7,h_9,h_17]
    refine zae ?_
    rw [I_3_]
    exact ⟨by simp [zac,zab,gP,gt,gr,gg,hm_0.copy,hm_0.elem,q_8,q_6,q_7,h_9,h_17],by simp [zac,gP,gt,gr,gg,hm_0.copy,hm_0.elem,q_8,q_6,q_7,h_9,h_17] <;> first | (intro x x1 x2 hx;have h0:=hl_f_ _ hx;simp at h0;omega) | (intro x hx;have h0:=hl_f_ _ hx;simp at h0;omega),by simp [zab,gP,gt,gr,gg,hm_0.copy,hm_0.elem,q_8,q_6,q_7,h_9,h_17]⟩
  ·try simp at h_9
   cases hp
   try simp [gP,gt,gr,gg,hm_0.copy,hm_0.elem,q_8,q_6,q_7,h_9]
   refine zag ?_
   rw [X_4_]
   exact ⟨_,rfl,by simp [zab,gP,gt,gr,gg,hm_0.copy,hm_0.elem,q_8,q_6,q_7,h_9]⟩
 ·intro out hX
  rw [X_4_] at hX
  rcases r_18 with r_18 | r_18
  ·simp only [Sum.elim_inl,Sum.elim_inr] at hX hp
   obtain ⟨σ_20,rfl,q_22,q_21⟩:=hX
   cases hp
   simp [Goal,FnEndI,zaw,gP,gt,gr,gg,hm_0.copy,hm_0.elem,q_22,q_21,hT2]
  ·simp only [Sum.elim_inl,Sum.elim_inr] at hX hp
   obtain ⟨σ_23,rfl,q_24⟩:=hX
   cases hp
   simp [Goal,FnEndI,zaw,gP,gt,gr,gg,hm_0.copy,hm_0.elem,q_24,hT2]

abbrev G72 (g:Cfg):Prop:=Has Try.prog g 72 Try.f72 [] [] [] []
theorem wI72 {g:Cfg} (G:G72 g) (G_80:G80 g) {d:Nat} {mem:Mem} (hT:Tight d mem)  {s:(List Int)} {f_:(Int→Option (Bool))} {m_0:Md} (hm_0:LentM m_0) {fk_f_:Nat} {caps_f_:List (Key × Nat)} (hl_f_:∀ c∈caps_f_,c.1.1≤d) (hc_f_:Clo g d mem fk_f_ caps_f_ fun x:Int × Unit=>f_ x.1) {y} (hp:zbv s f_=some y):callo g d 72 [av m_0 s,.one (.fn fk_f_ caps_f_)] mem=some (Res.res y,mem):=by
 have gP:=G.P;have gt:=G.tk;have gr:=G.ro;have gg:=G.gh
 have i_80:=G_80.no
 have hT2:memKill (fun k=>decide (d < k.1)) mem=mem:=hT
 refine zgw (Try.f72.body.getD .skip) [.tmp 4] G Try.func72 (by kernel_rfl) (by simp [Try.ntmps72]) rfl ?_
 unfold zbv at hp
 obtain ⟨y_1,h_2,hp⟩:=zaa hp
 simp [Try.f72,gP,gt,gr,gg,i_80,hm_0.copy,hm_0.elem]
 refine zge [av m_0 s,.one (.fn fk_f_ caps_f_)] (Res.res y_1) (by simp [gP,gt,gr,gg,i_80,hm_0.copy,hm_0.elem]) (wI80 G_80 (by repeat (first | exact zak _ | exact hT.up | exact hT | (simp only [true_and];done) | refine Tight.upd ?_ (by simp) (by simp) | refine Tight.killB ?_ | refine zar ?_)) hm_0 (fun c hc=>Nat.le_succ_of_le (hl_f_ c hc)) (hc_f_.mono (Nat.le_succ d) (fun k hk=>rfl)) h_2) ?_
 cases hp
 simp [Goal,FnEndI,zaw,gP,gt,gr,gg,i_80,hm_0.copy,hm_0.elem,hT2]

def C49:List AV→Option AV:=specP (X:=(List Int) × Unit) fun x=>zch x.1
theorem C49_eq {list} {y} (h:zch list=some y):C49 [av .shr list]=some (Res.res y):=zai (x:=(list,())) h
def g49:Cfg:={ P:=Try.prog,take:=[],keep:=[((80,2),{ hd:=[0,1,7,8],bx:=[],ex:=[],rt:=[4] })],gho:=[],ctx:=[(73,C73)] }
@[simp] theorem g49_s:type_of% (cfg_s (g:=g49) rfl):=cfg_s rfl
theorem w49 {list} {y} (hp:zch list=some y):∃ m,callo g49 0 49 [av .shr list] mem0=some (Res.res y,m):=by
 have G_72:G72 g49:=⟨rfl,by kernel_rfl,rfl,fun t=>by simp,noAway (fun t=>by simp) (by simp) (fun t=>by simp),by simp [lookN],fun i=>by simp [lookK],by simp [g49,lookK],by simp⟩
 have G_80:G80 g49:=⟨rfl,by kernel_rfl,rfl,fun t=>by simp,noAway (fun t=>by simp) (by simp) (fun t=>by simp),by simp [lookN],fun i=>by simp [lookK],by simp [g49,lookK],by simp⟩
 refine st0 [.tmp 2] Try.func49 ?_
 unfold zch at hp
 obtain ⟨y_1,h_2,hp⟩:=zaa hp
 simp [Try.f49]
 refine zge [av .shr list,.one (.fn 73 [])] (Res.res y_1) (by simp) (wI72 G_72 G_80 (by repeat (first | exact zak _ | exact hT.up | exact hT | (simp only [true_and];done) | refine Tight.upd ?_ (by simp) (by simp) | refine Tight.killB ?_ | refine zar ?_)) (.inl rfl) (by simp) (clo_ctx (by rfl)) h_2) ?_
 cases hp
 simp [Goal,FnEnd]
theorem pc49:PC Try.prog 49 C49:=pc_of (g:=g49) (zah _ g49_s.2.1 ⟨pc73,trivial⟩) (ent Try.func49) fun x y h=>w49 h

abbrev G50 (g:Cfg):Prop:=Has Try.prog g 50 Try.f50 [] [] [] []
theorem wI50 {g:Cfg} (G:G50 g) (G_46:G46 g) {d:Nat} {mem:Mem} (hT:Tight d mem)  {s:(List TNode)} {f_:(TNode→Option (Bool))} {m_0:Md} (hm_0:LentM m_0) {fk_f_:Nat} {caps_f_:List (Key × Nat)} (hl_f_:∀ c∈caps_f_,c.1.1≤d) (hc_f_:Clo g d mem fk_f_ caps_f_ fun x:TNode × Unit=>f_ x.1) {y} (hp:zbn s f_=some y):callo g d 50 [av m_0 s,.one (.fn fk_f_ caps_f_)] mem=some (Res.res y,mem):=by
 have gP:=G.P;have gt:=G.tk;have gr:=G.ro;have gg:=G.gh
 have i_46:=G_46.no
 have hT2:memKill (fun k=>decide (d < k.1)) mem=mem:=hT
 refine zgw (Try.f50.body.getD .skip) [.tmp 4] G Try.func50 (by kernel_rfl) (by simp [Try.ntmps50]) rfl ?_
 unfold zbn at hp
 obtain ⟨y_1,h_2,hp⟩:=zaa hp
 simp [Try.f50,gP,gt,gr,gg,i_46,hm_0.copy,hm_0.elem]
 refine zge [av m_0 s,.one (.fn fk_f_ caps_f_)] (Res.res y_1) (by simp [gP,gt,gr,gg,i_46,hm_0.copy,hm_0.elem]) (wI46 G_46 (by repeat (first | exact zak _ | exact hT.up | exact hT | (simp only [true_and];done) | refine Tight.upd ?_ (by simp) (by simp) | refine Tight.killB ?_ | refine zar ?_)) hm_0 (fun c hc=>Nat.le_succ_of_le (hl_f_ c hc)) (hc_f_.mono (Nat.le_succ d) (fun k hk=>rfl)) h_2) ?_
 cases hp
 simp [Goal,FnEndI,zaw,gP,gt,gr,gg,i_46,hm_0.copy,hm_0.elem,hT2]

abbrev G51 (g:Cfg):Prop:=Has Try.prog g 51 Try.f51 [] [] [(49,C49),(52,C52)] []
theorem wI51 {g:Cfg} (G:G51 g) {d:Nat} {mem:Mem} (hT:Tight d mem) {K_1:Key} {x_:TNode} {c0:Int} {m_0:Md} (hm_0:LentM m_0) (hk_1:K_1.1≤d) (hb_1:mem K_1=some [cI c0]) {y} (hp:zco x_ c0=some y):callo g d 51 [av m_0 x_,.one (.ptr K_1 0)] mem=some (Res.res y,mem):=by
 have gP:=G.P;have gt:=G.tk;have gr:=G.ro;have gg:=G.gh
 have c_49:=G.cs (49,C49) (by simp)
 have c_52:=G.cs (52,C52) (by simp)
 have hT2:memKill (fun k=>decide (d < k.1)) mem=mem:=hT
 have hm0:∀ t,mem (d+1,t)=none:=fun t=>hT.none (by simp)
 have nk_1:∀ t,(K_1=(d+1,t))=False:=fun t=>by simp;intro h;rw [h] at hk_1;simp at hk_1;omega
 refine zgw (Try.f51.body.getD .skip) [.tmp 3] G Try.func51 (by kernel_rfl) (by simp [Try.ntmps51]) rfl ?_
 unfold zco at hp
 simp [Try.f51,gP,gt,gr,gg,hm0,hm_0.copy,hm_0.elem,hb_1,nk_1]
 rcases zad hp with ⟨h_1,hp⟩|⟨h_1,hp⟩
 ·try simp at h_1
  cases hp
  simp [Goal,FnEndI,zaw,gP,gt,gr,gg,hm0,hm_0.copy,hm_0.elem,hb_1,nk_1,h_1,hT2]
 ·try simp at h_1
  try simp [gP,gt,gr,gg,hm0,hm_0.copy,hm_0.elem,hb_1,nk_1,h_1]
  rcases zad hp with ⟨h_2,hp⟩|⟨h_2,hp⟩
  ·try simp at h_2
   cases hp
   simp [Goal,FnEndI,zaw,gP,gt,gr,gg,hm0,hm_0.copy,hm_0.elem,hb_1,nk_1,h_1,h_2,hT2]
  ·try simp at h_2
   obtain ⟨y_3,h_4,hp⟩:=zaa hp
   have c_5:=C49_eq h_4
   simp at c_5
   try simp [gP,gt,gr,gg,hm0,c_49,hm_0.copy,hm_0.elem,hb_1,nk_1,h_1,h_2,c_5]
   rcases zad hp with ⟨h_6,hp⟩|⟨h_6,hp⟩
   ·try simp at h_6
    obtain ⟨y_7,h_8,hp⟩:=zaa hp
    have c_9:=C49_eq h_8
    simp at c_9
    try simp [gP,gt,gr,gg,hm0,c_49,hm_0.copy,hm_0.elem,hb_1,nk_1,h_1,h_2,h_6,c_9]
    rcases zad hp with ⟨h_10,hp⟩|⟨h_10,hp⟩
    ·try simp at h_10
     obtain ⟨y_11,h_12,hp⟩:=zaa hp
     have c_13:=C52_eq h_12
     simp at c_13
     try simp [gP,gt,gr,gg,hm0,c_49,c_52,hm_0.copy,hm_0.elem,hb_1,nk_1,h_1,h_2,h_6,h_10,c_13]
     rcases zad hp with ⟨h_14,hp⟩|⟨h_14,hp⟩
     ·try simp at h_14
      try simp [gP,gt,gr,gg,hm0,c_49,c_52,hm_0.copy,hm_0.elem,hb_1,nk_1,h_1,h_2,h_6,h_10,h_14]
      rcases zad hp with ⟨h_15,hp⟩|⟨h_15,hp⟩
      ·try simp at h_15
       cases hp
       simp [Goal,FnEndI,zaw,gP,gt,gr,gg,hm0,c_49,c_52,hm_0.copy,hm_0.elem,hb_1,nk_1,h_1,h_2,h_6,h_10,h_14,h_15,hT2]
      ·try simp at h_15
       cases hp
       simp [Goal,FnEndI,zaw,gP,gt,gr,gg,hm0,c_49,c_52,hm_0.copy,hm_0.elem,hb_1,nk_1,h_1,h_2,h_6,h_10,h_14,h_15,hT2]
     ·try simp at h_14
      cases hp
      simp [Goal,FnEndI,zaw,gP,gt,gr,gg,hm0,c_49,c_52,hm_0.copy,hm_0.elem,hb_1,nk_1,h_1,h_2,h_6,h_10,h_14,hT2]
    ·try simp at h_10
     cases hp
     simp [Goal,FnEndI,zaw,gP,gt,gr,gg,hm0,c_49,c_52,hm_0.copy,hm_0.elem,hb_1,nk_1,h_1,h_2,h_6,h_10,hT2]
   ·try simp at h_6
    cases hp
    simp [Goal,FnEndI,zaw,gP,gt,gr,gg,hm0,c_49,c_52,hm_0.copy,hm_0.elem,hb_1,nk_1,h_1,h_2,h_6,hT2]

def C23:List AV→Option AV:=specP (X:=Int × TStructure × Unit) fun x=>zcu x.1 x.2.1
theorem C23_eq {vars s} {y} (h:zcu vars s=some y):C23 [av .shr vars,av .shr s]=some (Res.res y):=zai (x:=(vars,s,())) h
def g23:Cfg:={ P:=Try.prog,take:=[],keep:=[((46,2),{ hd:=[0,1,7,8],bx:=[],ex:=[],rt:=[4] })],gho:=[],ctx:=[(48,C48),(49,C49),(52,C52)] }
@[simp] theorem g23_s:type_of% (cfg_s (g:=g23) rfl):=cfg_s rfl
theorem w23 {vars s} {y} (hp:zcu vars s=some y):∃ m,callo g23 0 23 [av .shr vars,av .shr s] mem0=some (Res.res y,m):=by
 have G_50:G50 g23:=⟨rfl,by kernel_rfl,rfl,fun t=>by simp,noAway (fun t=>by simp) (by simp) (fun t=>by simp),by simp [lookN],fun i=>by simp [lookK],by simp [g23,lookK],by simp⟩
 have G_46:G46 g23:=⟨rfl,by kernel_rfl,rfl,fun t=>by simp,noAway (fun t=>by simp) (by simp) (fun t=>by simp),by simp [lookN],fun i=>by simp [lookK],by simp [g23,lookK],by simp⟩
 have G_51:G51 g23:=⟨rfl,by kernel_rfl,rfl,fun t=>by simp,noAway (fun t=>by simp) (by simp) (fun t=>by simp),by simp [lookN],fun i=>by simp [lookK],by simp [g23,lookK],by simp⟩
 refine st0 [.tmp 4] Try.func23 ?_
 unfold zcu at hp
 obtain ⟨y_1,h_2,hp⟩:=zaa hp
 have c_3:=C48_eq h_2
 simp at c_3
 simp [Try.f23,c_3]
 rcases zad hp with ⟨h_4,hp⟩|⟨h_4,hp⟩
 ·try simp at h_4
  try simp [h_4]
  rcases zad hp with ⟨h_5,hp⟩|⟨h_5,hp⟩
  ·try simp at h_5
   cases hp
   simp [Goal,FnEnd,h_4,h_5]
  ·try simp at h_5
   try simp [h_4,h_5]
   rcases zad hp with ⟨h_6,hp⟩|⟨h_6,hp⟩
   ·try simp at h_6
    cases hp
    simp [Goal,FnEnd,h_4,h_5,h_6]
   ·try simp at h_6
    obtain ⟨y_7,h_8,hp⟩:=zaa hp
    have c_9:=C49_eq h_8
    simp at c_9
    try simp [h_4,h_5,h_6,c_9]
    rcases zad hp with ⟨h_10,hp⟩|⟨h_10,hp⟩
    ·try simp at h_10
     obtain ⟨y_11,h_12,hp⟩:=zaa hp
     try simp [h_4,h_5,h_6,h_10]
     refine zge [av .shr s.nodes,.one (.fn 51 [((1,2),0)])] (Res.res y_11) (by simp [h_4,h_5,h_6,h_10]) (wI50 G_50 G_46 (by repeat (first | exact zak _ | exact hT.up | exact hT | (simp only [true_and];done) | refine Tight.upd ?_ (by simp) (by simp) | refine Tight.killB ?_ | refine zar ?_)) (.inl rfl) (by simp) (clo1 (p:=fun x0=>zco x0 vars) fun d2 mem2 m0 x0 r2 hd2 ha2 hT2 hm0 hr2=>wI51 G_51 hT2 hm0 (show 1≤d2 from hd2) ((ha2 _ (Nat.le_refl _)).trans (by simp [h_4,h_5,h_6,h_10])) hr2) h_12) ?_
     cases hp
     simp [Goal,FnEnd,h_4,h_5,h_6,h_10]
    ·try simp at h_10
     cases hp
     simp [Goal,FnEnd,h_4,h_5,h_6,h_10]
 ·try simp at h_4
  cases hp
  simp [Goal,FnEnd,h_4]
theorem pc23:PC Try.prog 23 C23:=pc_of (g:=g23) (zah _ g23_s.2.1 ⟨pc48,pc49,pc52,trivial⟩) (ent Try.func23) fun x y h=>w23 h

def C54:List AV→Option AV:=specP (X:=TNode × Unit) fun x=>zde x.1
theorem C54_eq {x_} {y} (h:zde x_=some y):C54 [av .shr x_]=some (Res.res y):=zai (x:=(x_,())) h
def g54:Cfg:={ P:=Try.prog,take:=[],keep:=[],gho:=[],ctx:=[(53,C53)] }
@[simp] theorem g54_s:type_of% (cfg_s (g:=g54) rfl):=cfg_s rfl
theorem w54 {x_} {y} (hp:zde x_=some y):∃ m,callo g54 0 54 [av .shr x_] mem0=some (Res.res y,m):=by
 refine st0 [.cell 2 54] Try.func54 ?_
 unfold zde at hp
 obtain ⟨y_1,h_2,hp⟩:=zaa hp
 have c_3:=C53_eq h_2
 simp at c_3
 obtain ⟨y_4,h_5,hp⟩:=zaa hp
 have c_6:=C53_eq h_5
 simp at c_6
 cases hp
 simp [Try.f54,Goal,FnEnd,retR,rsrc,RSrc.val,nodupR,nodup,tupPart,c_3,c_6]
theorem pc54:PC Try.prog 54 C54:=pc_of (g:=g54) (zah _ g54_s.2.1 ⟨pc53,trivial⟩) (ent Try.func54) fun x y h=>w54 h

def C25:List AV→Option AV:=specP (X:=TStructure × Unit) fun x=>zat x.1
theorem C25_eq {s} {y} (h:zat s=some y):C25 [av .shr s]=some (Res.res y):=zai (x:=(s,())) h
def g25:Cfg:={ P:=Try.prog,take:=[(25,18),(25,25)],keep:=[((25,3),{ hd:=[2,3,11,12,13],bx:=[5],ex:=[2,3],rt:=[2] })],gho:=[],ctx:=[(53,C53),(54,C54)] }
@[simp] theorem g25_s:type_of% (cfg_s (g:=g25) rfl):=cfg_s rfl
theorem w25 {s} {y} (hp:zat s=some y):∃ m,callo g25 0 25 [av .shr s] mem0=some (Res.res y,m):=by
 refine st0 [.cell 2 27] Try.func25 ?_
 unfold zat at hp
 obtain ⟨y_1,h_2,hp⟩:=zaa hp
 have c_3:=C53_eq h_2
 simp at c_3
 simp [Try.f25,c_3]
 obtain ⟨r_23,h_24,hp⟩:=zaa hp
 obtain ⟨I_6,I_6_⟩:=exV fun (s_4:Int × (List TNode)) (σ:St)=>(σ.env 2=uP (1,2)∧σ.env 3=uP (1,3)∧σ.env 11=uL .shr s.nodes∧σ.env 12=uI (s.nodes.length:Int)∧σ.env 13=uI s_4.1∧σ.mem (1,1)=some [cL .shr s.nodes,cL .shr s.next]∧σ.mem (1,2)=some [.l .own 0 [],.l .own 0 []]∧σ.mem (1,3)=some [cL .own s_4.2,cL .own y_1])∧NoBox [(1,1),(1,2),(1,3)] σ.mem
 obtain ⟨X_7,X_7_⟩:=exV fun (r_23:(List TNode)) (out:Out)=>∃ σ:St,out=.exit 0 σ∧(σ.env 2=uP (1,2)∧σ.env 3=uP (1,3)∧σ.mem (1,1)=some [cL .shr s.nodes,cL .shr s.next]∧σ.mem (1,2)=some [.l .own 0 [],.l .own 0 []]∧σ.mem (1,3)=some [cL .own r_23,cL .own y_1])∧NoBox [(1,1),(1,2),(1,3)] σ.mem
 refine loopP ({ hd:=[2,3,11,12,13],bx:=[5],ex:=[2,3],rt:=[2] }) I_6 X_7 h_24 (by exact rfl) ?_ ?_ ?_
 ·rw [I_6_]
  exact ⟨by simp [zac,zab],NoBox.restrict (by intro k hk hb;simp at hk hb;simp [hk,hb])⟩
 ·intro s_4 σ_8 a_5 hI hp
  rw [I_6_] at hI
  obtain ⟨q_10,hn_9⟩:=hI
  try simp [q_10]
  rcases zad hp with ⟨h_11,hp⟩|⟨h_11,hp⟩
  ·try simp at h_11
   obtain ⟨e_12,h_13,hp⟩:=zaa hp
   have b_14:=at_lo h_13
   have b_15:=at_hi h_13
   try simp at b_14 b_15
   have c_16:=seg_at' h_13 0 4 (by decide) (ds:=[.sl e_12.vars.length (encL e_12.vars),.sl e_12.reach.length (encL e_12.reach),.sc (.int .i64 e_12.shared),.sc (.int .i64 e_12.many)]) rfl
   try simp at c_16
   have n_17:=hn_9 (1,5) (by simp)
   obtain ⟨y_18,h_19,hp⟩:=zaa hp
   have c_20:=C54_eq h_19
   simp at c_20
   obtain ⟨_,h_21,hp⟩:=zaa hp
   have b_22:=zau h_21
   try simp at b_22
   cases hp
   try simp [q_10,h_11,b_14,b_15,c_16,n_17,c_20,b_22]
   refine zae ?_
   rw [I_6_]
   exact ⟨by simp [zac,zab,q_10,h_11,b_14,b_15,c_16,n_17,c_20,b_22],NoBox.restrict (by intro k hk hb;simp at hk hb;simp [hk,hb,q_10,h_11,b_14,b_15,c_16,n_17,c_20,b_22,hn_9 k (by simp [hk,hb])])⟩
  ·try simp at h_11
   cases hp
   try simp [q_10,h_11]
   refine zag ?_
   rw [X_7_]
   exact ⟨_,rfl,by simp [zac,zab,q_10,h_11],NoBox.restrict (by intro k hk hb;simp at hk hb;simp [hk,hb,q_10,h_11,hn_9 k (by simp [hk,hb])])⟩
 ·intro out hX
  rw [X_7_] at hX
  obtain ⟨σ_25,rfl,q_27,hn_26⟩:=hX
  cases hp
  simp [Goal,FnEnd,retR,rsrc,RSrc.val,nodupR,nodup,tupPart,q_27]
theorem pc25:PC Try.prog 25 C25:=pc_of (g:=g25) (zah _ g25_s.2.1 ⟨pc53,pc54,trivial⟩) (ent Try.func25) fun x y h=>w25 h

def C56:List AV→Option AV:=specP (X:=Bool × Unit) fun x=>zfd x.1
theorem C56_eq {b_} {y} (h:zfd b_=some y):C56 [av .shr b_]=some (Res.res y):=zai (x:=(b_,())) h
def g56:Cfg:={ P:=Try.prog,take:=[],keep:=[],gho:=[],ctx:=[] }
@[simp] theorem g56_s:type_of% (cfg_s (g:=g56) rfl):=cfg_s rfl
theorem w56 {b_} {y} (hp:zfd b_=some y):∃ m,callo g56 0 56 [av .shr b_] mem0=some (Res.res y,m):=by
 refine st0 [.tmp 2] Try.func56 ?_
 unfold zfd at hp
 simp [Try.f56]
 rcases zad hp with ⟨h_1,hp⟩|⟨h_1,hp⟩
 ·try simp at h_1
  cases hp
  simp [Goal,FnEnd,h_1]
 ·try simp at h_1
  cases hp
  simp [Goal,FnEnd,h_1]
theorem pc56:PC Try.prog 56 C56:=pc_of (g:=g56) (zah [] rfl trivial) (ent Try.func56) fun x y h=>w56 h

def C27:List AV→Option AV:=specP (X:=TStructure × Int × Int × Unit) fun x=>zcg x.1 x.2.1 x.2.2.1
theorem C27_eq {s b_ target} {y} (h:zcg s b_ target=some y):C27 [av .shr s,av .shr b_,av .shr target]=some (Res.res y):=zai (x:=(s,b_,target,())) h
def g27:Cfg:={ P:=Try.prog,take:=[],keep:=[((27,4),{ hd:=[1,2,6,7,8,15,16],bx:=[],ex:=[2,6,7],rt:=[6] })],gho:=[((27,atEnd),[.frz (.at 6 0),.frz (.at 6 1)]),((27,2000001),[.thaw (.at 7 0) 1112 4,.thaw (.at 7 1) 1113 1])],ctx:=[(25,C25),(56,C56)] }
@[simp] theorem g27_s:type_of% (cfg_s (g:=g27) rfl):=cfg_s rfl
theorem w27 {s b_ target} {y} (hp:zcg s b_ target=some y):∃ m,callo g27 0 27 [av .shr s,av .shr b_,av .shr target] mem0=some (Res.res y,m):=by
 refine st0 [.cell 6 27] Try.func27 ?_
 unfold zcg at hp
 obtain ⟨y_1,h_2,hp⟩:=zaa hp
 have c_3:=C25_eq h_2
 simp at c_3
 simp [Try.f27,c_3]
 try simp
 try simp
 obtain ⟨r_21,h_22,hp⟩:=zaa hp
 obtain ⟨I_6,I_6_⟩:=exV fun (s_4:Int × (List Int)) (σ:St)=>(σ.env 1=uI b_∧σ.env 2=uI target∧σ.env 6=uP (1,6)∧σ.env 7=uP (1,7)∧σ.env 8=uI (y_1.nodes.length:Int)∧σ.env 15=uI (y_1.nodes.length:Int)∧σ.env 16=uI s_4.1∧σ.mem (1,3)=some [cL .shr s.nodes,cL .shr s.next]∧σ.mem (1,6)=some [.l .own 0 [],.l .own 0 []]∧σ.mem (1,7)=some [.bs (1,1112) y_1.nodes.length 4,.bs (1,1113) s_4.2.length 1]∧σ.mem (1,1112)=some (rowC y_1.nodes)∧σ.mem (1,1113)=some (rowC s_4.2))∧NoBox [(1,3),(1,6),(1,7),(1,1112),(1,1113)] σ.mem
 obtain ⟨X_7,X_7_⟩:=exV fun (r_21:(List Int)) (out:Out)=>∃ σ:St,out=.exit 0 σ∧(σ.env 2=uI target∧σ.env 6=uP (1,6)∧σ.env 7=uP (1,7)∧σ.mem (1,3)=some [cL .shr s.nodes,cL .shr s.next]∧σ.mem (1,6)=some [.l .own 0 [],.l .own 0 []]∧σ.mem (1,7)=some [.bs (1,1112) y_1.nodes.length 4,.bs (1,1113) r_21.length 1]∧σ.mem (1,1112)=some (rowC y_1.nodes)∧σ.mem (1,1113)=some (rowC r_21))∧NoBox [(1,3),(1,6),(1,7),(1,1112),(1,1113)] σ.mem
 refine loopP ({ hd:=[1,2,6,7,8,15,16],bx:=[],ex:=[2,6,7],rt:=[6] }) I_6 X_7 h_22 (by exact rfl) ?_ ?_ ?_
 ·rw [I_6_]
  exact ⟨by simp [zac,zab],NoBox.restrict (by intro k hk hb;simp at hk hb;simp [hk,hb])⟩
 ·intro s_4 σ_8 a_5 hI hp
  rw [I_6_] at hI
  obtain ⟨q_10,hn_9⟩:=hI
  try simp [q_10]
  rcases zad hp with ⟨h_11,hp⟩|⟨h_11,hp⟩
  ·try simp at h_11
   obtain ⟨y_12,h_13,hp⟩:=zaa hp
   have c_14:=C56_eq h_13
   simp at c_14
   obtain ⟨e_15,h_16,hp⟩:=zaa hp
   have b_17:=at_lo h_16
   have b_18:=at_hi h_16
   try simp at b_17 b_18
   have c_19:=zcy h_16 0 y_12 [(cI y_12)] (by simp) rfl
   try simp at c_19
   have l_20:=zeh h_16 0 (m:=1) (by decide)
   try simp at l_20
   cases hp
   try simp [q_10,h_11,c_14,b_17,b_18,c_19,l_20]
   refine zae ?_
   rw [I_6_]
   exact ⟨by simp [zac,zab,q_10,h_11,c_14,b_17,b_18,c_19,l_20],NoBox.restrict (by intro k hk hb;simp at hk hb;simp [hk,hb,q_10,h_11,c_14,b_17,b_18,c_19,l_20,hn_9 k (by simp [hk,hb])])⟩
  ·try simp at h_11
   cases hp
   try simp [q_10,h_11]
   refine zag ?_
   rw [X_7_]
   exact ⟨_,rfl,by simp [zac,zab,q_10,h_11],NoBox.restrict (by intro k hk hb;simp at hk hb;simp [hk,hb,q_10,h_11,hn_9 k (by simp [hk,hb])])⟩
 ·intro out hX
  rw [X_7_] at hX
  obtain ⟨σ_23,rfl,q_25,hn_24⟩:=hX
  try simp [q_25]
  rcases zad hp with ⟨h_26,hp⟩|⟨h_26,hp⟩
  ·try simp at h_26
   obtain ⟨e_27,h_28,hp⟩:=zaa hp
   have b_29:=at_lo h_28
   have b_30:=at_hi h_28
   try simp at b_29 b_30
   have c_31:=zcy h_28 3 (⟨e_27.vars,e_27.reach,e_27.shared,0⟩:TNode) [(cI 0)] (by simp) rfl
   try simp at c_31
   have l_32:=zeh h_28 3 (m:=1) (by decide)
   try simp at l_32
   cases hp
   simp [Goal,FnEnd,retR,rsrc,RSrc.val,nodupR,nodup,tupPart,q_25,h_26,b_29,b_30,c_31,l_32]
  ·try simp at h_26
   cases hp
   simp [Goal,FnEnd,retR,rsrc,RSrc.val,nodupR,nodup,tupPart,q_25,h_26]
theorem pc27:PC Try.prog 27 C27:=pc_of (g:=g27) (zah _ g27_s.2.1 ⟨pc25,pc56,trivial⟩) (ent Try.func27) fun x y h=>w27 h
end Go.Proofs

