import Derived.Test.YtfcfpdcjepobpaaGreatEvA14
set_option linter.unusedSimpArgs false
set_option linter.unusedVariables false
set_option linter.unnecessarySimpa false
noncomputable section
set_option maxHeartbeats 4000000
set_option maxRecDepth 100000
namespace Go.Proofs
open Go.Ev
def C37:List C→List AV→Option (AV × List C):=specX (T:=TL1Cur) (X:=(List Int) × Unit) (R:=(Int)) fun x t=>zcr t x.1
theorem C37_eq {c list} {y} (h:zcr c list=some y):C37 (bxT c) [av .shr list]=some (Res.res y.1,bxT y.2):=zht (T:=TL1Cur) (X:=(List Int) × Unit) (R:=(Int)) (F:=fun x t=>zcr t x.1) (x:=(list,())) h
def g37:Cfg:={ P:=Tryz.prog,take:=[],keep:=[],gho:=[],ctx:=[],pctx:=[(41,C41)] }
@[simp] theorem g37_s:type_of% (cfg_s (g:=g37) rfl):=cfg_s rfl
theorem g37_x41:PxOK g37 41 C41:=⟨rfl,rfl,Tryz.f41,Tryz.f41.body.getD .skip,Tryz.func41,by kernel_rfl⟩
theorem w37 {c list} {mem:Mem} (hT:Tight 0 mem) (hq0:mem (0,0)=some [cL .shr c.b,cI c.i,cI c.h]) (hn0:NoBox [(0,0)] mem) {y} (hp:zcr c list=some y):∃ m,callo g37 0 37 [.one (.ptr (0,0) 0),av .shr list] mem=some (Res.res y.1,m)∧(m (0,0)=some [cL .shr y.2.b,cI y.2.i,cI y.2.h]∧Tight 0 m∧NoBox [(0,0)] m):=by
 refine stD [.tmp 4] Tryz.func37 fun QV QV_=>?_
 unfold zcr at hp
 obtain ⟨y_1,h_2,hp⟩:=zaa hp
 simp [Tryz.f37,hq0]
 refine zal (0,0) (zfh h_2) g37_x41 (by simp [hq0]) (by simp) (by simp [hq0]) (.inr (by decide)) ?_
 obtain ⟨e_3,h_4,hp⟩:=zaa hp
 have b_5:=at_lo h_4
 have b_6:=at_hi h_4
 try simp at b_5 b_6
 have c_7:=seg_at' h_4 0 1 (by decide) (ds:=[.sc (.int .i64 e_3)]) rfl
 try simp at c_7
 cases hp
 simp [Goal,FnEndD,retR,rsrc,RSrc.val,nodupR,nodup,tupPart,hq0,b_5,b_6,c_7]
 rw [QV_]
 exact ⟨by simp [hq0,b_5,b_6,c_7],zbg _ _,zbi (L':=[(0,0)]) (by intro k hk;simp at hk;simp [hk,hq0,b_5,b_6,c_7,hn0 k (by simp [hk])]) (by simp)⟩
theorem px37:PX Tryz.prog 37 C37:=px_of (g:=g37) (zfp [] rfl trivial [] rfl trivial [] rfl trivial [(41,C41)] rfl ⟨px41,trivial⟩) (ent Tryz.func37) fun x t y h=>by
 obtain ⟨m,h1,h2,_,h3⟩:=w37 (mem:=upd mem0 (0,0) (some (bxT t))) (Tight.upd (zap _) (by simp) (by simp)) (by simp [upd,bxT]) (zgi _ _) h
 exact ⟨m,h1,h2,h3⟩

def C46:List C→List AV→Option (AV × List C):=specXS (T:=TL1Cur) (X:=Unit) (R:=(TStructure)) fun x t=>zdu t
theorem C46_eq {c} {y} (h:zdu c=some y):C46 (bxT c) []=some ((Res.res y.1).toS,bxT y.2):=specXS_eq (T:=TL1Cur) (X:=Unit) (R:=(TStructure)) (F:=fun x t=>zdu t ) (x:=(())) h
def g46:Cfg:={ P:=Tryz.prog,take:=[(46,11),(46,24),(46,40)],keep:=[],gho:=[((46,7),[.thaw (.at 3 0) 1048 4]),((46,10),[.thaw (.at 3 0) 1048 4,.thaw (.mem (1,1048) 0) 108384 1]),((46,13),[.thaw (.at 3 0) 1048 4,.shareM (1,1048)]),((46,14),[.shareM (1,3)]),((46,2000007),[.frz (.at 3 0)]),((46,2000010),[.frz (.mem (1,1048) 0),.frz (.at 3 0)]),((46,2000013),[.frz (.at 3 0)])],ctx:=[],away:=[(46,22,4000000),(46,35,4000000),(46,38,4000000)],pctx:=[(37,C37),(41,C41),(89,C89)] }
@[simp] theorem g46_s:type_of% (cfg_s (g:=g46) rfl):=cfg_s rfl
theorem g46_x37:PxOK g46 37 C37:=⟨rfl,rfl,Tryz.f37,Tryz.f37.body.getD .skip,Tryz.func37,by kernel_rfl⟩
theorem g46_x41:PxOK g46 41 C41:=⟨rfl,rfl,Tryz.f41,Tryz.f41.body.getD .skip,Tryz.func41,by kernel_rfl⟩
theorem g46_x89:PxOK g46 89 C89:=⟨rfl,rfl,Tryz.f89,Tryz.f89.body.getD .skip,Tryz.func89,by kernel_rfl⟩
@[simp] theorem g46_wa (d f dst key):awayB g46 d f dst key=awayL [(46,22,4000000),(46,35,4000000),(46,38,4000000)] d f dst key:=rfl
@[simp] theorem g46_wl (d f a key):lateB g46 d f a key=lateL [(46,22,4000000),(46,35,4000000),(46,38,4000000)] d f a key:=rfl
theorem w46 {c} {mem:Mem} (hT:Tight 0 mem) (hq0:mem (0,0)=some [cL .shr c.b,cI c.i,cI c.h]) (hn0:NoBox [(0,0)] mem) {y} (hp:zdu c=some y):∃ m,callo g46 0 46 [.one (.ptr (0,0) 0)] mem=some ((Res.res y.1).toS,m)∧(m (0,0)=some [cL .shr y.2.b,cI y.2.i,cI y.2.h]∧Tight 0 m∧NoBox [(0,0)] m):=by
 refine stD [.cell 2 32] Tryz.func46 fun QV QV_=>?_
 unfold zdu at hp
 have n_1:=hn0 (1,2) (by simp)
 obtain ⟨y_2,h_3,hp⟩:=zaa hp
 simp [Tryz.f46,hq0,n_1]
 refine zal (0,0) (C89_eq h_3) g46_x89 (by simp [hq0]) (by simp) (by simp [hq0]) (.inr (by decide)) ?_
 have n_4:=hn0 (1,3) (by simp)
 obtain ⟨y_5,h_6,hp⟩:=zaa hp
 try simp [hq0,n_4]
 refine zal (0,0) (zfh h_6) g46_x41 (by simp [hq0]) (by simp) (by simp [hq0]) (.inr (by decide)) ?_
 try simp [hq0]
 rcases zad hp with ⟨h_7,hp⟩|⟨h_7,hp⟩
 ·try simp at h_7
  obtain ⟨_,h_8,hp⟩:=zaa hp
  have b_9:=zbc h_8
  try simp at b_9
  cases hp
  simp [Goal,FnEndD,retR,rsrc,RSrc.val,nodupR,nodup,tupPart,hq0,h_7,b_9]
  rw [QV_]
  exact ⟨by simp [hq0,h_7,b_9],zbg _ _,zbi (L':=[(0,0),(1,2),(1,3)]) (by intro k hk;simp at hk;simp [hk,hq0,h_7,b_9,hn0 k (by simp [hk])] <;> (intro hx;simp [hx]) <;> (intro hy;simp [hy])) (by simp)⟩
 ·try simp at h_7
  try simp [hq0,h_7]
  rcases zad hp with ⟨h_10,hp⟩|⟨h_10,hp⟩
  ·try simp at h_10
   try simp [hq0,h_7,h_10]
   rcases zad hp with ⟨h_11,hp⟩|⟨h_11,hp⟩
   ·try simp at h_11
    try simp [hq0,h_7,h_10,h_11]
    have n_12:=hn0 (1,1048) (by simp)
    obtain ⟨y_13,h_14,hp⟩:=zaa hp
    try simp [hq0,h_7,h_10,h_11,n_12]
    refine zal (0,0) (C37_eq h_14) g46_x37 (by simp [hq0,h_7,h_10,h_11]) (by simp) (by simp [hq0,h_7,h_10,h_11]) (.inr (by decide)) ?_
    obtain ⟨e_15,h_16,hp⟩:=zaa hp
    have b_17:=at_lo h_16
    have b_18:=at_hi h_16
    try simp at b_17 b_18
    have c_19:=zei h_16 3 (⟨e_15.vars,e_15.reach,e_15.shared,y_13.1⟩:TNode) [(cI y_13.1)] (by simp) rfl
    try simp at c_19
    have l_20:=zfq h_16 3 (m:=1) (by decide)
    try simp at l_20
    cases hp
    simp [Goal,FnEndD,retR,rsrc,RSrc.val,nodupR,nodup,tupPart,hq0,h_7,h_10,h_11,b_17,b_18,c_19,l_20]
    rw [QV_]
    exact ⟨by simp [hq0,h_7,h_10,h_11,b_17,b_18,c_19,l_20],zbg _ _,zbi (L':=[(0,0),(1,2),(1,3)]) (by intro k hk;simp at hk;simp [hk,hq0,h_7,h_10,h_11,b_17,b_18,c_19,l_20,hn0 k (by simp [hk])] <;> (intro hx;simp [hx]) <;> (intro hy;simp [hy])) (by simp)⟩
   ·try simp at h_11
    cases hp
    simp [Goal,FnEndD,retR,rsrc,RSrc.val,nodupR,nodup,tupPart,hq0,h_7,h_10,h_11]
    rw [QV_]
    exact ⟨by simp [hq0,h_7,h_10,h_11],zbg _ _,zbi (L':=[(0,0),(1,2),(1,3)]) (by intro k hk;simp at hk;simp [hk,hq0,h_7,h_10,h_11,hn0 k (by simp [hk])] <;> (intro hx;simp [hx]) <;> (intro hy;simp [hy])) (by simp)⟩
  ·try simp at h_10
   try simp [hq0,h_7,h_10]
   rcases zad hp with ⟨h_21,hp⟩|⟨h_21,hp⟩
   ·try simp at h_21
    try simp [hq0,h_7,h_10,h_21]
    rcases zad hp with ⟨h_22,hp⟩|⟨h_22,hp⟩
    ·try simp at h_22
     try simp [hq0,h_7,h_10,h_21,h_22]
     have n_23:=hn0 (1,1048) (by simp)
     obtain ⟨e_25,h_26,hp⟩:=zaa hp
     have c_27:=row_get h_26 0 (by decide) (d:=.sl e_25.vars.length (encL e_25.vars)) rfl
     obtain ⟨_,c_28⟩:=get_of c_27
     try simp at c_28 c_27
     have b_29:=at_lo h_26
     have b_30:=at_hi h_26
     try simp at b_29 b_30
     have n_24:=hn0 (1,108384) (by simp)
     try simp [hq0,h_7,h_10,h_21,h_22,n_23,c_27,c_28,b_29,b_30,n_24]
     obtain ⟨e_31,h_32,hp⟩:=zaa hp
     cases Option.some.inj (h_26.symm.trans h_32)
     have b_33:=at_lo h_26
     have b_34:=at_hi h_26
     try simp at b_33 b_34
     have c_35:=zpr h_26 0 (by decide) (.bs (1,108384) e_25.vars.length 1)
     try simp at c_35
     obtain ⟨y_36,h_37,hp⟩:=zaa hp
     try simp [hq0,h_7,h_10,h_21,h_22,b_33,b_34,c_35]
     refine zal (0,0) (C37_eq h_37) g46_x37 (by simp [hq0,h_7,h_10,h_21,h_22]) (by simp) (by simp [hq0,h_7,h_10,h_21,h_22]) (.inr (by decide)) ?_
     obtain ⟨e_38,h_39,hp⟩:=zaa hp
     have b_40:=at_lo h_39
     have b_41:=at_hi h_39
     try simp at b_40 b_41
     have c_42:=zei h_39 0 y_36.1 [(cI y_36.1)] (by simp) rfl
     try simp at c_42
     have l_43:=zfq h_39 0 (m:=1) (by decide)
     try simp at l_43
     have c_44:=zmi h_26 0 (by decide) (.bs (1,108384) (e_25.vars.set (0:Int).toNat y_36.1).length 1)
     obtain ⟨_,c_46⟩:=get_of c_44
     try simp at c_46 c_44
     have c_45:=znq h_26 0 (⟨e_25.vars.set (0:Int).toNat y_36.1,e_25.reach,e_25.shared,e_25.many⟩:TNode) (c:=(cL .own (e_25.vars.set (0:Int).toNat y_36.1))) rfl
     try simp at c_45
     cases hp
     simp [Goal,FnEndD,retR,rsrc,RSrc.val,nodupR,nodup,tupPart,hq0,h_7,h_10,h_21,h_22,b_40,b_41,c_42,l_43,c_44,c_45,c_46]
     rw [QV_]
     exact ⟨by simp [hq0,h_7,h_10,h_21,h_22,b_40,b_41,c_42,l_43,c_44,c_45,c_46],zbg _ _,zbi (L':=[(0,0),(1,2),(1,3)]) (by intro k hk;simp at hk;simp [hk,hq0,h_7,h_10,h_21,h_22,b_40,b_41,c_42,l_43,c_44,c_45,c_46,hn0 k (by simp [hk])] <;> (intro hx;simp [hx]) <;> (intro hy;simp [hy])) (by simp)⟩
    ·try simp at h_22
     cases hp
     simp [Goal,FnEndD,retR,rsrc,RSrc.val,nodupR,nodup,tupPart,hq0,h_7,h_10,h_21,h_22]
     rw [QV_]
     exact ⟨by simp [hq0,h_7,h_10,h_21,h_22],zbg _ _,zbi (L':=[(0,0),(1,2),(1,3)]) (by intro k hk;simp at hk;simp [hk,hq0,h_7,h_10,h_21,h_22,hn0 k (by simp [hk])] <;> (intro hx;simp [hx]) <;> (intro hy;simp [hy])) (by simp)⟩
   ·try simp at h_21
    try simp [hq0,h_7,h_10,h_21]
    rcases zad hp with ⟨h_47,hp⟩|⟨h_47,hp⟩
    ·try simp at h_47
     try simp [hq0,h_7,h_10,h_21,h_47]
     rcases zad hp with ⟨h_48,hp⟩|⟨h_48,hp⟩
     ·try simp at h_48
      try simp [hq0,h_7,h_10,h_21,h_47,h_48]
      have n_49:=hn0 (1,1048) (by simp)
      obtain ⟨e_50,h_51,hp⟩:=zaa hp
      have b_52:=at_lo h_51
      have b_53:=at_hi h_51
      try simp at b_52 b_53
      have c_54:=seg_rowS h_51 1 1 (by decide) (ds:=[.sl e_50.reach.length (encL e_50.reach)]) rfl
      try simp at c_54
      obtain ⟨z_55,h_56,hp⟩:=zaa hp
      have c_58:=slc_1 h_56
      have c_60:=slc_3 h_56
      have c_61:=slc_4 h_56
      try simp at c_58 c_60
      try simp [c_60] at c_61
      obtain ⟨e_62,h_63,hp⟩:=zaa hp
      cases Option.some.inj (h_51.symm.trans h_63)
      have b_64:=at_lo h_51
      have b_65:=at_hi h_51
      try simp at b_64 b_65
      have c_66:=splice_rowS h_51 1 (⟨e_50.vars,z_55,e_50.shared,e_50.many⟩:TNode) [(cL .shr z_55)] (by simp) rfl
      try simp at c_66
      have l_67:=zfq h_51 1 (m:=1) (by decide)
      try simp at l_67
      have c_68:=rowS_top h_51 (⟨e_50.vars,z_55,e_50.shared,e_50.many⟩:TNode) (off:=0) rfl
      try simp at c_68
      cases hp
      simp [Goal,FnEndD,retR,rsrc,RSrc.val,nodupR,nodup,tupPart,hq0,h_7,h_10,h_21,h_47,h_48,n_49,b_52,b_53,c_54,c_58,c_60,c_61,b_64,b_65,c_66,l_67,c_68]
      rw [QV_]
      exact ⟨by simp [hq0,h_7,h_10,h_21,h_47,h_48,n_49,b_52,b_53,c_54,c_58,c_60,c_61,b_64,b_65,c_66,l_67,c_68],zbg _ _,zbi (L':=[(0,0),(1,2),(1,3)]) (by intro k hk;simp at hk;simp [hk,hq0,h_7,h_10,h_21,h_47,h_48,n_49,b_52,b_53,c_54,c_58,c_60,c_61,b_64,b_65,c_66,l_67,c_68,hn0 k (by simp [hk])] <;> (intro hx;simp [hx]) <;> (intro hy;simp [hy])) (by simp)⟩
     ·try simp at h_48
      cases hp
      simp [Goal,FnEndD,retR,rsrc,RSrc.val,nodupR,nodup,tupPart,hq0,h_7,h_10,h_21,h_47,h_48]
      rw [QV_]
      exact ⟨by simp [hq0,h_7,h_10,h_21,h_47,h_48],zbg _ _,zbi (L':=[(0,0),(1,2),(1,3)]) (by intro k hk;simp at hk;simp [hk,hq0,h_7,h_10,h_21,h_47,h_48,hn0 k (by simp [hk])] <;> (intro hx;simp [hx]) <;> (intro hy;simp [hy])) (by simp)⟩
    ·try simp at h_47
     cases hp
     simp [Goal,FnEndD,retR,rsrc,RSrc.val,nodupR,nodup,tupPart,hq0,h_7,h_10,h_21,h_47]
     rw [QV_]
     exact ⟨by simp [hq0,h_7,h_10,h_21,h_47],zbg _ _,zbi (L':=[(0,0),(1,2),(1,3)]) (by intro k hk;simp at hk;simp [hk,hq0,h_7,h_10,h_21,h_47,hn0 k (by simp [hk])] <;> (intro hx;simp [hx]) <;> (intro hy;simp [hy])) (by simp)⟩
theorem px46:PX Tryz.prog 46 C46:=px_ofS (g:=g46) (zfp [] rfl trivial [] rfl trivial [] rfl trivial [(37,C37),(41,C41),(89,C89)] rfl ⟨px37,px41,px89,trivial⟩) (ent Tryz.func46) fun x t y h=>by
 obtain ⟨m,h1,h2,_,h3⟩:=w46 (mem:=upd mem0 (0,0) (some (bxT t))) (Tight.upd (zap _) (by simp) (by simp)) (by simp [upd,bxT]) (zgi _ _) h
 exact ⟨m,h1,h2,h3⟩

def C20:List AV→Option AV:=specPS (X:=(List U8) × Unit) fun x=>zer x.1
theorem C20_eq {code} {y} (h:zer code=some y):C20 [av .shr code]=some ((Res.res y).toS):=zij (x:=(code,())) h
def g20:Cfg:={ P:=Tryz.prog,take:=[],keep:=[],gho:=[],ctx:=[],give:=[(20,4)],bctx:=[(35,C35)],pctx:=[(46,C46)] }
@[simp] theorem g20_s:type_of% (cfg_s (g:=g20) rfl):=cfg_s rfl
theorem g20_x46:PxOK g20 46 C46:=⟨rfl,rfl,Tryz.f46,Tryz.f46.body.getD .skip,Tryz.func46,by kernel_rfl⟩
theorem w20 {code} {y} (hp:zer code=some y):∃ m,callo g20 0 20 [av .shr code] mem0=some ((Res.res y).toS,m):=by
 refine st0 [.cell 2 32] Tryz.func20 ?_
 unfold zer at hp
 obtain ⟨y_1,h_2,hp⟩:=zaa hp
 simp [Tryz.f20]
 refine zqk (1,5000004) (C35_eq h_2) (by rfl) (by rfl) (by simp) (by simp) (by rfl) (by simp [mem0]) ?_
 obtain ⟨y_3,h_4,hp⟩:=zaa hp
 try simp
 refine zal (1,5000004) (C46_eq h_4) g20_x46 (by simp) (by simp) (by simp) (.inr (by decide)) ?_
 cases hp
 simp [Goal,FnEnd,retR,rsrc,RSrc.val,nodupR,nodup,tupPart]
theorem pc20:PC Tryz.prog 20 C20:=pc_ofS (g:=g20) (zfp [] rfl trivial [] rfl trivial [(35,C35)] rfl ⟨bc35,trivial⟩ [(46,C46)] rfl ⟨px46,trivial⟩) (ent Tryz.func20) fun x y h=>w20 h

def C48:List AV→Option AV:=specP (X:=TStructure × Unit) fun x=>zdl x.1
theorem C48_eq {s} {y} (h:zdl s=some y):C48 [av .shr s]=some (Res.res y):=zah (x:=(s,())) h
def g48:Cfg:={ P:=Tryz.prog,take:=[],keep:=[],gho:=[],ctx:=[] }
@[simp] theorem g48_s:type_of% (cfg_s (g:=g48) rfl):=cfg_s rfl
theorem w48 {s} {y} (hp:zdl s=some y):∃ m,callo g48 0 48 [av .shr s] mem0=some (Res.res y,m):=by
 refine st0 [.tmp 2] Tryz.func48 ?_
 unfold zdl at hp
 simp [Tryz.f48]
 rcases zad hp with ⟨h_1,hp⟩|⟨h_1,hp⟩
 ·try simp at h_1
  cases hp
  simp [Goal,FnEnd,h_1]
 ·try simp at h_1
  obtain ⟨e_2,h_3,hp⟩:=zaa hp
  have b_5:=at_hi h_3
  try simp at b_5
  have c_6:=seg_at' h_3 0 1 (by decide) (ds:=[.sl e_2.vars.length (encL e_2.vars)]) rfl
  try simp at c_6
  cases hp
  simp [Goal,FnEnd,h_1,b_5,c_6]
theorem pc48:PC Tryz.prog 48 C48:=pc_of (g:=g48) (zag [] rfl trivial) (ent Tryz.func48) fun x y h=>w48 h

def C90:List AV→Option AV:=specP (X:=Int × Int × Int × Unit) fun x=>zbm x.1 x.2.1 x.2.2.1
theorem zjm {n_ low high} {y} (h:zbm n_ low high=some y):C90 [av .shr n_,av .shr low,av .shr high]=some (Res.res y):=zah (x:=(n_,low,high,())) h
def g90:Cfg:={ P:=Tryz.prog,take:=[],keep:=[],gho:=[],ctx:=[] }
@[simp] theorem g90_s:type_of% (cfg_s (g:=g90) rfl):=cfg_s rfl
theorem w90 {n_ low high} {y} (hp:zbm n_ low high=some y):∃ m,callo g90 0 90 [av .shr n_,av .shr low,av .shr high] mem0=some (Res.res y,m):=by
 refine st0 [.tmp 6] Tryz.func90 ?_
 unfold zbm at hp
 simp [Tryz.f90]
 rcases zad hp with ⟨h_1,hp⟩|⟨h_1,hp⟩
 ·try simp at h_1
  cases hp
  simp [Goal,FnEnd,h_1]
 ·try simp at h_1
  cases hp
  simp [Goal,FnEnd,h_1]
theorem pc90:PC Tryz.prog 90 C90:=pc_of (g:=g90) (zag [] rfl trivial) (ent Tryz.func90) fun x y h=>w90 h

def C94:List AV→Option AV:=specP (X:=Int × Unit) fun x=>zcm x.1
theorem C94_eq {a_} {y} (h:zcm a_=some y):C94 [av .shr a_]=some (Res.res y):=zah (x:=(a_,())) h
def g94:Cfg:={ P:=Tryz.prog,take:=[],keep:=[],gho:=[],ctx:=[(90,C90)] }
@[simp] theorem g94_s:type_of% (cfg_s (g:=g94) rfl):=cfg_s rfl
theorem w94 {a_} {y} (hp:zcm a_=some y):∃ m,callo g94 0 94 [av .shr a_] mem0=some (Res.res y,m):=by
 refine st0 [.tmp 2] Tryz.func94 ?_
 unfold zcm at hp
 obtain ⟨y_1,h_2,hp⟩:=zaa hp
 have c_3:=zjm h_2
 simp at c_3
 cases hp
 simp [Tryz.f94,Goal,FnEnd,c_3]
theorem pc94:PC Tryz.prog 94 C94:=pc_of (g:=g94) (zag _ g94_s.2.1 ⟨pc90,trivial⟩) (ent Tryz.func94) fun x y h=>w94 h

def C125:List AV→Option AV:=specP (X:=Int × Unit) fun x=>zdq x.1
def g125:Cfg:={ P:=Tryz.prog,take:=[],keep:=[],gho:=[],ctx:=[(94,C94)] }
@[simp] theorem g125_s:type_of% (cfg_s (g:=g125) rfl):=cfg_s rfl
theorem w125 {a_} {y} (hp:zdq a_=some y):∃ m,callo g125 0 125 [av .shr a_] mem0=some (Res.res y,m):=by
 refine st0 [.tmp 2] Tryz.func125 ?_
 unfold zdq at hp
 obtain ⟨y_1,h_2,hp⟩:=zaa hp
 have c_3:=C94_eq h_2
 simp at c_3
 cases hp
 simp [Tryz.f125,Goal,FnEnd,c_3]
theorem pc125:PC Tryz.prog 125 C125:=pc_of (g:=g125) (zag _ g125_s.2.1 ⟨pc94,trivial⟩) (ent Tryz.func125) fun x y h=>w125 h

abbrev G150 (g:Cfg):Prop:=Has Tryz.prog g 150 Tryz.f150 [] [(2,{ hd:=[0,1,7,8],bx:=[],ex:=[],rt:=[4] })] [] []
theorem wI150 {g:Cfg} (G:G150 g) {d:Nat} {mem:Mem} (hT:Tight d mem)  {s:(List Int)} {f_:(Int→Option (Bool))} {m_0:Md} (hm_0:LentM m_0) {fk_f_:Nat} {caps_f_:List (Key × Nat)} (hl_f_:∀ c∈caps_f_,c.1.1≤d) (hc_f_:Clo g d mem fk_f_ caps_f_ fun x:Int × Unit=>f_ x.1) {y} (hp:zeg s f_=some y):callo g d 150 [av m_0 s,.one (.fn fk_f_ caps_f_)] mem=some (Res.res y,mem):=by
 have gP:=G.P;have gt:=G.tk;have gr:=G.ro;have gg:=G.gh
 have k_2:=G.kp (2,{ hd:=[0,1,7,8],bx:=[],ex:=[],rt:=[4] }) (by simp)
 have hT2:memKill (fun k=>decide (d < k.1)) mem=mem:=hT
 refine zhq (Tryz.f150.body.getD .skip) [.tmp 4] G Tryz.func150 (by kernel_rfl) (by simp [Tryz.ntmps150]) rfl ?_
 unfold zeg at hp
 simp [Tryz.f150,gP,gt,gr,gg,hm_0.copy,hm_0.elem]
 obtain ⟨r_18,h_19,hp⟩:=zaa hp
 obtain ⟨I_3,I_3_⟩:=exV fun (s_1:Int) (σ:St)=>(σ.env 0=uL m_0 s∧σ.env 7=uI (s.length:Int)∧σ.env 8=uI s_1)∧σ.env 1=.one (.fn fk_f_ caps_f_)∧σ.mem=mem
 obtain ⟨X_4,X_4_⟩:=exV fun (r_18:(Int) ⊕ (Unit)) (out:Out)=>Sum.elim (fun r_18=>∃ σ:St,out=.ret σ∧σ.env 4=uI r_18∧σ.mem=mem) (fun r_18=>∃ σ:St,out=.exit 0 σ∧σ.mem=mem) r_18
 refine loopP ({ hd:=[0,1,7,8],bx:=[],ex:=[],rt:=[4] }) I_3 X_4 h_19 (by exact k_2) ?_ ?_ ?_
 ·rw [I_3_]
  exact ⟨by simp [zac,zab,gP,gt,gr,gg,hm_0.copy,hm_0.elem],by simp [zac,gP,gt,gr,gg,hm_0.copy,hm_0.elem] <;> first | (intro x x1 x2 hx;have h0:=hl_f_ _ hx;simp at h0;omega) | (intro x hx;have h0:=hl_f_ _ hx;simp at h0;omega),by simp [zab,gP,gt,gr,gg,hm_0.copy,hm_0.elem]⟩
 ·intro s_1 σ_5 a_2 hI hp
  rw [I_3_] at hI
  obtain ⟨q_8,q_6,q_7⟩:=hI
  try simp [gP,gt,gr,gg,hm_0.copy,hm_0.elem,q_8,q_6,q_7]
  rcases zad hp with ⟨h_9,hp⟩|⟨h_9,hp⟩
  ·try simp at h_9
   obtain ⟨e_10,h_11,hp⟩:=zaa hp
   have b_12:=at_lo h_11
   have b_13:=at_hi h_11
   try simp at b_12 b_13
   have c_14:=seg_at' h_11 0 1 (by decide) (ds:=[.sc (.int .i64 e_10)]) rfl
   try simp at c_14
   obtain ⟨y_15,h_16,hp⟩:=zaa hp
   try simp [gP,gt,gr,gg,hm_0.copy,hm_0.elem,q_8,q_6,q_7,h_9,b_12,b_13,c_14]
   refine zga ([av .shr e_10] ++ capsAV caps_f_) (Res.res y_15) (by simp [capsAV,gP,gt,gr,gg,hm_0.copy,hm_0.elem,q_8,q_6,q_7,h_9]) (hc_f_ _ _ _ (e_10,()) _ (Nat.le_succ d) (fun k hk=>by first | rfl | rw [q_7]) (by repeat (first | exact zap _ | exact hT.up | exact hT | (simp only [q_8,q_6,q_7];done) | refine Tight.upd ?_ (by simp) (by simp) | refine Tight.killB ?_ | refine zbv ?_)) ⟨_,_,(.inl rfl),rfl,rfl⟩ h_16) ?_
   try simp [gP,gt,gr,gg,hm_0.copy,hm_0.elem,q_8,q_6,q_7,h_9]
   rcases zad hp with ⟨h_17,hp⟩|⟨h_17,hp⟩
   ·try simp at h_17
    cases hp
    try simp [gP,gt,gr,gg,hm_0.copy,hm_0.elem,q_8,q_6,q_7,h_9,h_17]
    refine zaq ?_
    rw [X_4_]
    exact ⟨_,rfl,by simp [zac,zab,gP,gt,gr,gg,hm_0.copy,hm_0.elem,q_8,q_6,q_7,h_9,h_17],by simp [zab,gP,gt,gr,gg,hm_0.copy,hm_0.elem,q_8,q_6,q_7,h_9,h_17]⟩
   ·try simp at h_17
    cases hp
    try simp [gP,gt,gr,gg,hm_0.copy,hm_0.elem,q_8,q_6,q_7,h_9,h_17]
    refine zaf ?_
    rw [I_3_]
    exact ⟨by simp [zac,zab,gP,gt,gr,gg,hm_0.copy,hm_0.elem,q_8,q_6,q_7,h_9,h_17],by simp [zac,gP,gt,gr,gg,hm_0.copy,hm_0.elem,q_8,q_6,q_7,h_9,h_17] <;> first | (intro x x1 x2 hx;have h0:=hl_f_ _ hx;simp at h0;omega) | (intro x hx;have h0:=hl_f_ _ hx;simp at h0;omega),by simp [zab,gP,gt,gr,gg,hm_0.copy,hm_0.elem,q_8,q_6,q_7,h_9,h_17]⟩
  ·try simp at h_9
   cases hp
   try simp [gP,gt,gr,gg,hm_0.copy,hm_0.elem,q_8,q_6,q_7,h_9]
   refine zai ?_
   rw [X_4_]
   exact ⟨_,rfl,by simp [zab,gP,gt,gr,gg,hm_0.copy,hm_0.elem,q_8,q_6,q_7,h_9]⟩
 ·intro out hX
  rw [X_4_] at hX
  rcases r_18 with r_18 | r_18
  ·simp only [Sum.elim_inl,Sum.elim_inr] at hX hp
   obtain ⟨σ_20,rfl,q_22,q_21⟩:=hX
   cases hp
   simp [Goal,FnEndI,zbe,gP,gt,gr,gg,hm_0.copy,hm_0.elem,q_22,q_21,hT2]
  ·simp only [Sum.elim_inl,Sum.elim_inr] at hX hp
   obtain ⟨σ_23,rfl,q_24⟩:=hX
   cases hp
   simp [Goal,FnEndI,zbe,gP,gt,gr,gg,hm_0.copy,hm_0.elem,q_24,hT2]

abbrev G124 (g:Cfg):Prop:=Has Tryz.prog g 124 Tryz.f124 [] [] [] []
theorem wI124 {g:Cfg} (G:G124 g) (G_150:G150 g) {d:Nat} {mem:Mem} (hT:Tight d mem)  {s:(List Int)} {f_:(Int→Option (Bool))} {m_0:Md} (hm_0:LentM m_0) {fk_f_:Nat} {caps_f_:List (Key × Nat)} (hl_f_:∀ c∈caps_f_,c.1.1≤d) (hc_f_:Clo g d mem fk_f_ caps_f_ fun x:Int × Unit=>f_ x.1) {y} (hp:zbb s f_=some y):callo g d 124 [av m_0 s,.one (.fn fk_f_ caps_f_)] mem=some (Res.res y,mem):=by
 have gP:=G.P;have gt:=G.tk;have gr:=G.ro;have gg:=G.gh
 have i_150:=G_150.no
 have hT2:memKill (fun k=>decide (d < k.1)) mem=mem:=hT
 refine zhq (Tryz.f124.body.getD .skip) [.tmp 4] G Tryz.func124 (by kernel_rfl) (by simp [Tryz.ntmps124]) rfl ?_
 unfold zbb at hp
 obtain ⟨y_1,h_2,hp⟩:=zaa hp
 simp [Tryz.f124,gP,gt,gr,gg,i_150,hm_0.copy,hm_0.elem]
 refine zga [av m_0 s,.one (.fn fk_f_ caps_f_)] (Res.res y_1) (by simp [gP,gt,gr,gg,i_150,hm_0.copy,hm_0.elem]) (wI150 G_150 (by repeat (first | exact zap _ | exact hT.up | exact hT | (simp only [true_and];done) | refine Tight.upd ?_ (by simp) (by simp) | refine Tight.killB ?_ | refine zbv ?_)) hm_0 (fun c hc=>Nat.le_succ_of_le (hl_f_ c hc)) (hc_f_.mono (Nat.le_succ d) (fun k hk=>rfl)) h_2) ?_
 cases hp
 simp [Goal,FnEndI,zbe,gP,gt,gr,gg,i_150,hm_0.copy,hm_0.elem,hT2]

def C91:List AV→Option AV:=specP (X:=(List Int) × Unit) fun x=>zcv x.1
theorem C91_eq {list} {y} (h:zcv list=some y):C91 [av .shr list]=some (Res.res y):=zah (x:=(list,())) h
def g91:Cfg:={ P:=Tryz.prog,take:=[],keep:=[((150,2),{ hd:=[0,1,7,8],bx:=[],ex:=[],rt:=[4] })],gho:=[],ctx:=[(125,C125)] }
@[simp] theorem g91_s:type_of% (cfg_s (g:=g91) rfl):=cfg_s rfl
theorem w91 {list} {y} (hp:zcv list=some y):∃ m,callo g91 0 91 [av .shr list] mem0=some (Res.res y,m):=by
 have G_124:G124 g91:=⟨rfl,by kernel_rfl,rfl,fun t=>by simp,noAway (fun t=>by simp) (by simp) (fun t=>by simp),by simp [lookN],fun i=>by simp [lookK],by simp [g91,lookK],by simp⟩
 have G_150:G150 g91:=⟨rfl,by kernel_rfl,rfl,fun t=>by simp,noAway (fun t=>by simp) (by simp) (fun t=>by simp),by simp [lookN],fun i=>by simp [lookK],by simp [g91,lookK],by simp⟩
 refine st0 [.tmp 2] Tryz.func91 ?_
 unfold zcv at hp
 obtain ⟨y_1,h_2,hp⟩:=zaa hp
 simp [Tryz.f91]
 refine zga [av .shr list,.one (.fn 125 [])] (Res.res y_1) (by simp) (wI124 G_124 G_150 (by repeat (first | exact zap _ | exact hT.up | exact hT | (simp only [true_and];done) | refine Tight.upd ?_ (by simp) (by simp) | refine Tight.killB ?_ | refine zbv ?_)) (.inl rfl) (by simp) (clo_ctx (by rfl)) h_2) ?_
 cases hp
 simp [Goal,FnEnd]
theorem pc91:PC Tryz.prog 91 C91:=pc_of (g:=g91) (zag _ g91_s.2.1 ⟨pc125,trivial⟩) (ent Tryz.func91) fun x y h=>w91 h

abbrev G126 (g:Cfg):Prop:=Has Tryz.prog g 126 Tryz.f126 [] [(2,{ hd:=[0,1,7,8],bx:=[],ex:=[],rt:=[4] })] [] []
theorem wI126 {g:Cfg} (G:G126 g) {d:Nat} {mem:Mem} (hT:Tight d mem)  {s:(List TNode)} {f_:(TNode→Option (Bool))} {m_0:Md} (hm_0:LentM m_0) {fk_f_:Nat} {caps_f_:List (Key × Nat)} (hl_f_:∀ c∈caps_f_,c.1.1≤d) (hc_f_:Clo g d mem fk_f_ caps_f_ fun x:TNode × Unit=>f_ x.1) {y} (hp:zdv s f_=some y):callo g d 126 [av m_0 s,.one (.fn fk_f_ caps_f_)] mem=some (Res.res y,mem):=by
 have gP:=G.P;have gt:=G.tk;have gr:=G.ro;have gg:=G.gh
 have k_2:=G.kp (2,{ hd:=[0,1,7,8],bx:=[],ex:=[],rt:=[4] }) (by simp)
 have hT2:memKill (fun k=>decide (d < k.1)) mem=mem:=hT
 refine zhq (Tryz.f126.body.getD .skip) [.tmp 4] G Tryz.func126 (by kernel_rfl) (by simp [Tryz.ntmps126]) rfl ?_
 unfold zdv at hp
 simp [Tryz.f126,gP,gt,gr,gg,hm_0.copy,hm_0.elem]
 obtain ⟨r_18,h_19,hp⟩:=zaa hp
 obtain ⟨I_3,I_3_⟩:=exV fun (s_1:Int) (σ:St)=>(σ.env 0=uL m_0 s∧σ.env 7=uI (s.length:Int)∧σ.env 8=uI s_1)∧σ.env 1=.one (.fn fk_f_ caps_f_)∧σ.mem=mem
 obtain ⟨X_4,X_4_⟩:=exV fun (r_18:(Int) ⊕ (Unit)) (out:Out)=>Sum.elim (fun r_18=>∃ σ:St,out=.ret σ∧σ.env 4=uI r_18∧σ.mem=mem) (fun r_18=>∃ σ:St,out=.exit 0 σ∧σ.mem=mem) r_18
 refine loopP ({ hd:=[0,1,7,8],bx:=[],ex:=[],rt:=[4] }) I_3 X_4 h_19 (by exact k_2) ?_ ?_ ?_
 ·rw [I_3_]
  exact ⟨by simp [zac,zab,gP,gt,gr,gg,hm_0.copy,hm_0.elem],by simp [zac,gP,gt,gr,gg,hm_0.copy,hm_0.elem] <;> first | (intro x x1 x2 hx;have h0:=hl_f_ _ hx;simp at h0;omega) | (intro x hx;have h0:=hl_f_ _ hx;simp at h0;omega),by simp [zab,gP,gt,gr,gg,hm_0.copy,hm_0.elem]⟩
 ·intro s_1 σ_5 a_2 hI hp
  rw [I_3_] at hI
  obtain ⟨q_8,q_6,q_7⟩:=hI
  try simp [gP,gt,gr,gg,hm_0.copy,hm_0.elem,q_8,q_6,q_7]
  rcases zad hp with ⟨h_9,hp⟩|⟨h_9,hp⟩
  ·try simp at h_9
   obtain ⟨e_10,h_11,hp⟩:=zaa hp
   have b_12:=at_lo h_11
   have b_13:=at_hi h_11
   try simp at b_12 b_13
   have c_14:=seg_at' h_11 0 4 (by decide) (ds:=[.sl e_10.vars.length (encL e_10.vars),.sl e_10.reach.length (encL e_10.reach),.sc (.int .i64 e_10.shared),.sc (.int .i64 e_10.many)]) rfl
   try simp at c_14
   obtain ⟨y_15,h_16,hp⟩:=zaa hp
   try simp [gP,gt,gr,gg,hm_0.copy,hm_0.elem,q_8,q_6,q_7,h_9,b_12,b_13,c_14]
   refine zga ([av m_0 e_10] ++ capsAV caps_f_) (Res.res y_15) (by simp [capsAV,gP,gt,gr,gg,hm_0.copy,hm_0.elem,q_8,q_6,q_7,h_9]) (hc_f_ _ _ _ (e_10,()) _ (Nat.le_succ d) (fun k hk=>by first | rfl | rw [q_7]) (by repeat (first | exact zap _ | exact hT.up | exact hT | (simp only [q_8,q_6,q_7];done) | refine Tight.upd ?_ (by simp) (by simp) | refine Tight.killB ?_ | refine zbv ?_)) ⟨_,_,hm_0,rfl,rfl⟩ h_16) ?_
   try simp [gP,gt,gr,gg,hm_0.copy,hm_0.elem,q_8,q_6,q_7,h_9]
   rcases zad hp with ⟨h_17,hp⟩|⟨h_17,hp⟩
   ·try simp at h_17
    cases hp
    try simp [gP,gt,gr,gg,hm_0.copy,hm_0.elem,q_8,q_6,q_7,h_9,h_17]
    refine zaq ?_
    rw [X_4_]
    exact ⟨_,rfl,by simp [zac,zab,gP,gt,gr,gg,hm_0.copy,hm_0.elem,q_8,q_6,q_7,h_9,h_17],by simp [zab,gP,gt,gr,gg,hm_0.copy,hm_0.elem,q_8,q_6,q_7,h_9,h_17]⟩
   ·try simp at h_17
    cases hp
    try simp [gP,gt,gr,gg,hm_0.copy,hm_0.elem,q_8,q_6,q_7,h_9,h_17]
    refine zaf ?_
    rw [I_3_]
    exact ⟨by simp [zac,zab,gP,gt,gr,gg,hm_0.copy,hm_0.elem,q_8,q_6,q_7,h_9,h_17],by simp [zac,gP,gt,gr,gg,hm_0.copy,hm_0.elem,q_8,q_6,q_7,h_9,h_17] <;> first | (intro x x1 x2 hx;have h0:=hl_f_ _ hx;simp at h0;omega) | (intro x hx;have h0:=hl_f_ _ hx;simp at h0;omega),by simp [zab,gP,gt,gr,gg,hm_0.copy,hm_0.elem,q_8,q_6,q_7,h_9,h_17]⟩
  ·try simp at h_9
   cases hp
   try simp [gP,gt,gr,gg,hm_0.copy,hm_0.elem,q_8,q_6,q_7,h_9]
   refine zai ?_
   rw [X_4_]
   exact ⟨_,rfl,by simp [zab,gP,gt,gr,gg,hm_0.copy,hm_0.elem,q_8,q_6,q_7,h_9]⟩
 ·intro out hX
  rw [X_4_] at hX
  rcases r_18 with r_18 | r_18
  ·simp only [Sum.elim_inl,Sum.elim_inr] at hX hp
   obtain ⟨σ_20,rfl,q_22,q_21⟩:=hX
   cases hp
   simp [Goal,FnEndI,zbe,gP,gt,gr,gg,hm_0.copy,hm_0.elem,q_22,q_21,hT2]
  ·simp only [Sum.elim_inl,Sum.elim_inr] at hX hp
   obtain ⟨σ_23,rfl,q_24⟩:=hX
   cases hp
   simp [Goal,FnEndI,zbe,gP,gt,gr,gg,hm_0.copy,hm_0.elem,q_24,hT2]

abbrev G92 (g:Cfg):Prop:=Has Tryz.prog g 92 Tryz.f92 [] [] [] []
theorem wI92 {g:Cfg} (G:G92 g) (G_126:G126 g) {d:Nat} {mem:Mem} (hT:Tight d mem)  {s:(List TNode)} {f_:(TNode→Option (Bool))} {m_0:Md} (hm_0:LentM m_0) {fk_f_:Nat} {caps_f_:List (Key × Nat)} (hl_f_:∀ c∈caps_f_,c.1.1≤d) (hc_f_:Clo g d mem fk_f_ caps_f_ fun x:TNode × Unit=>f_ x.1) {y} (hp:zbw s f_=some y):callo g d 92 [av m_0 s,.one (.fn fk_f_ caps_f_)] mem=some (Res.res y,mem):=by
 have gP:=G.P;have gt:=G.tk;have gr:=G.ro;have gg:=G.gh
 have i_126:=G_126.no
 have hT2:memKill (fun k=>decide (d < k.1)) mem=mem:=hT
 refine zhq (Tryz.f92.body.getD .skip) [.tmp 4] G Tryz.func92 (by kernel_rfl) (by simp [Tryz.ntmps92]) rfl ?_
 unfold zbw at hp
 obtain ⟨y_1,h_2,hp⟩:=zaa hp
 simp [Tryz.f92,gP,gt,gr,gg,i_126,hm_0.copy,hm_0.elem]
 refine zga [av m_0 s,.one (.fn fk_f_ caps_f_)] (Res.res y_1) (by simp [gP,gt,gr,gg,i_126,hm_0.copy,hm_0.elem]) (wI126 G_126 (by repeat (first | exact zap _ | exact hT.up | exact hT | (simp only [true_and];done) | refine Tight.upd ?_ (by simp) (by simp) | refine Tight.killB ?_ | refine zbv ?_)) hm_0 (fun c hc=>Nat.le_succ_of_le (hl_f_ c hc)) (hc_f_.mono (Nat.le_succ d) (fun k hk=>rfl)) h_2) ?_
 cases hp
 simp [Goal,FnEndI,zbe,gP,gt,gr,gg,i_126,hm_0.copy,hm_0.elem,hT2]

abbrev G93 (g:Cfg):Prop:=Has Tryz.prog g 93 Tryz.f93 [] [] [(91,C91),(94,C94)] []
theorem wI93 {g:Cfg} (G:G93 g) {d:Nat} {mem:Mem} (hT:Tight d mem) {K_1:Key} {x_:TNode} {c0:Int} {m_0:Md} (hm_0:LentM m_0) (hk_1:K_1.1≤d) (hb_1:mem K_1=some [cI c0]) {y} (hp:zda x_ c0=some y):callo g d 93 [av m_0 x_,.one (.ptr K_1 0)] mem=some (Res.res y,mem):=by
 have gP:=G.P;have gt:=G.tk;have gr:=G.ro;have gg:=G.gh
 have c_91:=G.cs (91,C91) (by simp)
 have c_94:=G.cs (94,C94) (by simp)
 have hT2:memKill (fun k=>decide (d < k.1)) mem=mem:=hT
 have hm0:∀ t,mem (d+1,t)=none:=fun t=>hT.none (by simp)
 have nk_1:∀ t,(K_1=(d+1,t))=False:=fun t=>by simp;intro h;rw [h] at hk_1;simp at hk_1;omega
 refine zhq (Tryz.f93.body.getD .skip) [.tmp 3] G Tryz.func93 (by kernel_rfl) (by simp [Tryz.ntmps93]) rfl ?_
 unfold zda at hp
 simp [Tryz.f93,gP,gt,gr,gg,hm0,hm_0.copy,hm_0.elem,hb_1,nk_1]
 rcases zad hp with ⟨h_1,hp⟩|⟨h_1,hp⟩
 ·try simp at h_1
  cases hp
  simp [Goal,FnEndI,zbe,gP,gt,gr,gg,hm0,hm_0.copy,hm_0.elem,hb_1,nk_1,h_1,hT2]
 ·try simp at h_1
  try simp [gP,gt,gr,gg,hm0,hm_0.copy,hm_0.elem,hb_1,nk_1,h_1]
  rcases zad hp with ⟨h_2,hp⟩|⟨h_2,hp⟩
  ·try simp at h_2
   cases hp
   simp [Goal,FnEndI,zbe,gP,gt,gr,gg,hm0,hm_0.copy,hm_0.elem,hb_1,nk_1,h_1,h_2,hT2]
  ·try simp at h_2
   obtain ⟨y_3,h_4,hp⟩:=zaa hp
   have c_5:=C91_eq h_4
   simp at c_5
   try simp [gP,gt,gr,gg,hm0,c_91,hm_0.copy,hm_0.elem,hb_1,nk_1,h_1,h_2,c_5]
   rcases zad hp with ⟨h_6,hp⟩|⟨h_6,hp⟩
   ·try simp at h_6
    obtain ⟨y_7,h_8,hp⟩:=zaa hp
    have c_9:=C91_eq h_8
    simp at c_9
    try simp [gP,gt,gr,gg,hm0,c_91,hm_0.copy,hm_0.elem,hb_1,nk_1,h_1,h_2,h_6,c_9]
    rcases zad hp with ⟨h_10,hp⟩|⟨h_10,hp⟩
    ·try simp at h_10
     obtain ⟨y_11,h_12,hp⟩:=zaa hp
     have c_13:=C94_eq h_12
     simp at c_13
     try simp [gP,gt,gr,gg,hm0,c_91,c_94,hm_0.copy,hm_0.elem,hb_1,nk_1,h_1,h_2,h_6,h_10,c_13]
     rcases zad hp with ⟨h_14,hp⟩|⟨h_14,hp⟩
     ·try simp at h_14
      try simp [gP,gt,gr,gg,hm0,c_91,c_94,hm_0.copy,hm_0.elem,hb_1,nk_1,h_1,h_2,h_6,h_10,h_14]
      rcases zad hp with ⟨h_15,hp⟩|⟨h_15,hp⟩
      ·try simp at h_15
       cases hp
       simp [Goal,FnEndI,zbe,gP,gt,gr,gg,hm0,c_91,c_94,hm_0.copy,hm_0.elem,hb_1,nk_1,h_1,h_2,h_6,h_10,h_14,h_15,hT2]
      ·try simp at h_15
       cases hp
       simp [Goal,FnEndI,zbe,gP,gt,gr,gg,hm0,c_91,c_94,hm_0.copy,hm_0.elem,hb_1,nk_1,h_1,h_2,h_6,h_10,h_14,h_15,hT2]
     ·try simp at h_14
      cases hp
      simp [Goal,FnEndI,zbe,gP,gt,gr,gg,hm0,c_91,c_94,hm_0.copy,hm_0.elem,hb_1,nk_1,h_1,h_2,h_6,h_10,h_14,hT2]
    ·try simp at h_10
     cases hp
     simp [Goal,FnEndI,zbe,gP,gt,gr,gg,hm0,c_91,c_94,hm_0.copy,hm_0.elem,hb_1,nk_1,h_1,h_2,h_6,h_10,hT2]
   ·try simp at h_6
    cases hp
    simp [Goal,FnEndI,zbe,gP,gt,gr,gg,hm0,c_91,c_94,hm_0.copy,hm_0.elem,hb_1,nk_1,h_1,h_2,h_6,hT2]

def C47:List AV→Option AV:=specP (X:=Int × TStructure × Unit) fun x=>zdg x.1 x.2.1
theorem C47_eq {vars s} {y} (h:zdg vars s=some y):C47 [av .shr vars,av .shr s]=some (Res.res y):=zah (x:=(vars,s,())) h
def g47:Cfg:={ P:=Tryz.prog,take:=[],keep:=[((126,2),{ hd:=[0,1,7,8],bx:=[],ex:=[],rt:=[4] })],gho:=[],ctx:=[(90,C90),(91,C91),(94,C94)] }
@[simp] theorem g47_s:type_of% (cfg_s (g:=g47) rfl):=cfg_s rfl
theorem w47 {vars s} {y} (hp:zdg vars s=some y):∃ m,callo g47 0 47 [av .shr vars,av .shr s] mem0=some (Res.res y,m):=by
 have G_92:G92 g47:=⟨rfl,by kernel_rfl,rfl,fun t=>by simp,noAway (fun t=>by simp) (by simp) (fun t=>by simp),by simp [lookN],fun i=>by simp [lookK],by simp [g47,lookK],by simp⟩
 have G_126:G126 g47:=⟨rfl,by kernel_rfl,rfl,fun t=>by simp,noAway (fun t=>by simp) (by simp) (fun t=>by simp),by simp [lookN],fun i=>by simp [lookK],by simp [g47,lookK],by simp⟩
 have G_93:G93 g47:=⟨rfl,by kernel_rfl,rfl,fun t=>by simp,noAway (fun t=>by simp) (by simp) (fun t=>by simp),by simp [lookN],fun i=>by simp [lookK],by simp [g47,lookK],by simp⟩
 refine st0 [.tmp 4] Tryz.func47 ?_
 unfold zdg at hp
 obtain ⟨y_1,h_2,hp⟩:=zaa hp
 have c_3:=zjm h_2
 simp at c_3
 simp [Tryz.f47,c_3]
 rcases zad hp with ⟨h_4,hp⟩|⟨h_4,hp⟩
 ·try simp at h_4
  try simp [h_4]
  rcases zad hp with ⟨h_5,hp⟩|⟨h_5,hp⟩
  ·try simp at h_5
   cases hp
   simp [Goal,FnEnd,h_4,h_5]
  ·try simp at h_5
   try simp [h_4,h_5]
   rcases zad hp with ⟨h_6,hp⟩|⟨h_6,hp⟩
   ·try simp at h_6
    cases hp
    simp [Goal,FnEnd,h_4,h_5,h_6]
   ·try simp at h_6
    obtain ⟨y_7,h_8,hp⟩:=zaa hp
    have c_9:=C91_eq h_8
    simp at c_9
    try simp [h_4,h_5,h_6,c_9]
    rcases zad hp with ⟨h_10,hp⟩|⟨h_10,hp⟩
    ·try simp at h_10
     obtain ⟨y_11,h_12,hp⟩:=zaa hp
     try simp [h_4,h_5,h_6,h_10]
     refine zga [av .shr s.nodes,.one (.fn 93 [((1,2),0)])] (Res.res y_11) (by simp [h_4,h_5,h_6,h_10]) (wI92 G_92 G_126 (by repeat (first | exact zap _ | exact hT.up | exact hT | (simp only [true_and];done) | refine Tight.upd ?_ (by simp) (by simp) | refine Tight.killB ?_ | refine zbv ?_)) (.inl rfl) (by simp) (clo1 (p:=fun x0=>zda x0 vars) fun d2 mem2 m0 x0 r2 hd2 ha2 hT2 hm0 hr2=>wI93 G_93 hT2 hm0 (show 1≤d2 from hd2) ((ha2 _ (Nat.le_refl _)).trans (by simp [h_4,h_5,h_6,h_10])) hr2) h_12) ?_
     cases hp
     simp [Goal,FnEnd,h_4,h_5,h_6,h_10]
    ·try simp at h_10
     cases hp
     simp [Goal,FnEnd,h_4,h_5,h_6,h_10]
 ·try simp at h_4
  cases hp
  simp [Goal,FnEnd,h_4]
theorem pc47:PC Tryz.prog 47 C47:=pc_of (g:=g47) (zag _ g47_s.2.1 ⟨pc90,pc91,pc94,trivial⟩) (ent Tryz.func47) fun x y h=>w47 h

def C52:List AV→Option AV:=specP (X:=TNode × Unit) fun x=>zdi x.1
theorem C52_eq {x_} {y} (h:zdi x_=some y):C52 [av .shr x_]=some (Res.res y):=zah (x:=(x_,())) h
def g52:Cfg:={ P:=Tryz.prog,take:=[],keep:=[],gho:=[],ctx:=[(95,C95)] }
@[simp] theorem g52_s:type_of% (cfg_s (g:=g52) rfl):=cfg_s rfl
theorem w52 {x_} {y} (hp:zdi x_=some y):∃ m,callo g52 0 52 [av .shr x_] mem0=some (Res.res y,m):=by
 refine st0 [.cell 2 75] Tryz.func52 ?_
 unfold zdi at hp
 obtain ⟨y_1,h_2,hp⟩:=zaa hp
 have c_3:=C95_eq h_2
 simp at c_3
 obtain ⟨y_4,h_5,hp⟩:=zaa hp
 have c_6:=C95_eq h_5
 simp at c_6
 cases hp
 simp [Tryz.f52,Goal,FnEnd,retR,rsrc,RSrc.val,nodupR,nodup,tupPart,c_3,c_6]
theorem pc52:PC Tryz.prog 52 C52:=pc_of (g:=g52) (zag _ g52_s.2.1 ⟨pc95,trivial⟩) (ent Tryz.func52) fun x y h=>w52 h

def C49:List AV→Option AV:=specP (X:=TStructure × Unit) fun x=>zcg x.1
theorem C49_eq {s} {y} (h:zcg s=some y):C49 [av .shr s]=some (Res.res y):=zah (x:=(s,())) h
def g49:Cfg:={ P:=Tryz.prog,take:=[(49,18),(49,25)],keep:=[((49,3),{ hd:=[2,3,11,12,13],bx:=[5],ex:=[2,3],rt:=[2] })],gho:=[],ctx:=[(52,C52),(95,C95)] }
@[simp] theorem g49_s:type_of% (cfg_s (g:=g49) rfl):=cfg_s rfl
theorem w49 {s} {y} (hp:zcg s=some y):∃ m,callo g49 0 49 [av .shr s] mem0=some (Res.res y,m):=by
 refine st0 [.cell 2 32] Tryz.func49 ?_
 unfold zcg at hp
 obtain ⟨y_1,h_2,hp⟩:=zaa hp
 have c_3:=C95_eq h_2
 simp at c_3
 simp [Tryz.f49,c_3]
 obtain ⟨r_23,h_24,hp⟩:=zaa hp
 obtain ⟨I_6,I_6_⟩:=exV fun (s_4:Int × (List TNode)) (σ:St)=>(σ.env 2=uP (1,2)∧σ.env 3=uP (1,3)∧σ.env 11=uL .shr s.nodes∧σ.env 12=uI (s.nodes.length:Int)∧σ.env 13=uI s_4.1∧σ.mem (1,1)=some [cL .shr s.nodes,cL .shr s.next]∧σ.mem (1,2)=some [.l .own 0 [],.l .own 0 []]∧σ.mem (1,3)=some [cL .own s_4.2,cL .own y_1])∧NoBox [(1,1),(1,2),(1,3)] σ.mem
 obtain ⟨X_7,X_7_⟩:=exV fun (r_23:(List TNode)) (out:Out)=>∃ σ:St,out=.exit 0 σ∧(σ.env 2=uP (1,2)∧σ.env 3=uP (1,3)∧σ.mem (1,1)=some [cL .shr s.nodes,cL .shr s.next]∧σ.mem (1,2)=some [.l .own 0 [],.l .own 0 []]∧σ.mem (1,3)=some [cL .own r_23,cL .own y_1])∧NoBox [(1,1),(1,2),(1,3)] σ.mem
 refine loopP ({ hd:=[2,3,11,12,13],bx:=[5],ex:=[2,3],rt:=[2] }) I_6 X_7 h_24 (by exact rfl) ?_ ?_ ?_
 ·rw [I_6_]
  exact ⟨by simp [zac,zab],NoBox.restrict (by intro k hk hb;simp at hk hb;simp [hk,hb])⟩
 ·intro s_4 σ_8 a_5 hI hp
  rw [I_6_] at hI
  obtain ⟨q_10,hn_9⟩:=hI
  try simp [q_10]
  rcases zad hp with ⟨h_11,hp⟩|⟨h_11,hp⟩
  ·try simp at h_11
   obtain ⟨e_12,h_13,hp⟩:=zaa hp
   have b_14:=at_lo h_13
   have b_15:=at_hi h_13
   try simp at b_14 b_15
   have c_16:=seg_at' h_13 0 4 (by decide) (ds:=[.sl e_12.vars.length (encL e_12.vars),.sl e_12.reach.length (encL e_12.reach),.sc (.int .i64 e_12.shared),.sc (.int .i64 e_12.many)]) rfl
   try simp at c_16
   have n_17:=hn_9 (1,5) (by simp)
   obtain ⟨y_18,h_19,hp⟩:=zaa hp
   have c_20:=C52_eq h_19
   simp at c_20
   obtain ⟨_,h_21,hp⟩:=zaa hp
   have b_22:=zbc h_21
   try simp at b_22
   cases hp
   try simp [q_10,h_11,b_14,b_15,c_16,n_17,c_20,b_22]
   refine zaf ?_
   rw [I_6_]
   exact ⟨by simp [zac,zab,q_10,h_11,b_14,b_15,c_16,n_17,c_20,b_22],NoBox.restrict (by intro k hk hb;simp at hk hb;simp [hk,hb,q_10,h_11,b_14,b_15,c_16,n_17,c_20,b_22,hn_9 k (by simp [hk,hb])])⟩
  ·try simp at h_11
   cases hp
   try simp [q_10,h_11]
   refine zai ?_
   rw [X_7_]
   exact ⟨_,rfl,by simp [zac,zab,q_10,h_11],NoBox.restrict (by intro k hk hb;simp at hk hb;simp [hk,hb,q_10,h_11,hn_9 k (by simp [hk,hb])])⟩
 ·intro out hX
  rw [X_7_] at hX
  obtain ⟨σ_25,rfl,q_27,hn_26⟩:=hX
  cases hp
  simp [Goal,FnEnd,retR,rsrc,RSrc.val,nodupR,nodup,tupPart,q_27]
theorem pc49:PC Tryz.prog 49 C49:=pc_of (g:=g49) (zag _ g49_s.2.1 ⟨pc52,pc95,trivial⟩) (ent Tryz.func49) fun x y h=>w49 h

def C62:List AV→Option AV:=specP (X:=TStructure × Int × Unit) fun x=>zam x.1 x.2.1
theorem C62_eq {s i} {y} (h:zam s i=some y):C62 [av .shr s,av .shr i]=some (Res.res y):=zah (x:=(s,i,())) h
def g62:Cfg:={ P:=Tryz.prog,take:=[],keep:=[],gho:=[],ctx:=[(90,C90)] }
@[simp] theorem g62_s:type_of% (cfg_s (g:=g62) rfl):=cfg_s rfl
theorem w62 {s i} {y} (hp:zam s i=some y):∃ m,callo g62 0 62 [av .shr s,av .shr i] mem0=some (Res.res y,m):=by
 refine st0 [.tmp 4] Tryz.func62 ?_
 unfold zam at hp
 obtain ⟨y_1,h_2,hp⟩:=zaa hp
 have c_3:=zjm h_2
 simp at c_3
 cases hp
 simp [Tryz.f62,Goal,FnEnd,c_3]
theorem pc62:PC Tryz.prog 62 C62:=pc_of (g:=g62) (zag _ g62_s.2.1 ⟨pc90,trivial⟩) (ent Tryz.func62) fun x y h=>w62 h

def C63:List AV→Option AV:=specP (X:=TStructure × Unit) fun x=>zaw x.1
theorem C63_eq {s} {y} (h:zaw s=some y):C63 [av .shr s]=some (Res.res y):=zah (x:=(s,())) h
def g63:Cfg:={ P:=Tryz.prog,take:=[],keep:=[],gho:=[],ctx:=[(48,C48)] }
@[simp] theorem g63_s:type_of% (cfg_s (g:=g63) rfl):=cfg_s rfl
theorem w63 {s} {y} (hp:zaw s=some y):∃ m,callo g63 0 63 [av .shr s] mem0=some (Res.res y,m):=by
 refine st0 [.tmp 2] Tryz.func63 ?_
 unfold zaw at hp
 simp [Tryz.f63]
 rcases zad hp with ⟨h_1,hp⟩|⟨h_1,hp⟩
 ·try simp at h_1
  cases hp
  simp [Goal,FnEnd,h_1]
 ·try simp at h_1
  obtain ⟨y_2,h_3,hp⟩:=zaa hp
  have c_4:=C48_eq h_3
  simp at c_4
  cases hp
  simp [Goal,FnEnd,h_1,c_4]
theorem pc63:PC Tryz.prog 63 C63:=pc_of (g:=g63) (zag _ g63_s.2.1 ⟨pc48,trivial⟩) (ent Tryz.func63) fun x y h=>w63 h

def C65:List AV→Option AV:=specP (X:=TStructure × Int × Int × Unit) fun x=>zbt x.1 x.2.1 x.2.2.1
theorem C65_eq {s k_ i} {y} (h:zbt s k_ i=some y):C65 [av .shr s,av .shr k_,av .shr i]=some (Res.res y):=zah (x:=(s,k_,i,())) h
def g65:Cfg:={ P:=Tryz.prog,take:=[],keep:=[],gho:=[],ctx:=[(48,C48),(62,C62),(90,C90)] }
@[simp] theorem g65_s:type_of% (cfg_s (g:=g65) rfl):=cfg_s rfl
theorem w65 {s k_ i} {y} (hp:zbt s k_ i=some y):∃ m,callo g65 0 65 [av .shr s,av .shr k_,av .shr i] mem0=some (Res.res y,m):=by
 refine st0 [.tmp 6] Tryz.func65 ?_
 unfold zbt at hp
 obtain ⟨y_1,h_2,hp⟩:=zaa hp
 have c_3:=C48_eq h_2
 simp at c_3
 obtain ⟨y_4,h_5,hp⟩:=zaa hp
 have c_6:=C62_eq h_5
 simp at c_6
 simp [Tryz.f65,c_3,c_6]
 rcases zad hp with ⟨h_7,hp⟩|⟨h_7,hp⟩
 ·try simp at h_7
  obtain ⟨e_8,h_9,hp⟩:=zaa hp
  have b_10:=at_lo h_9
  have b_11:=at_hi h_9
  try simp at b_10 b_11
  have c_12:=seg_at' h_9 0 4 (by decide) (ds:=[.sl e_8.vars.length (encL e_8.vars),.sl e_8.reach.length (encL e_8.reach),.sc (.int .i64 e_8.shared),.sc (.int .i64 e_8.many)]) rfl
  try simp at c_12
  try simp [h_7,b_10,b_11,c_12]
  rcases zad hp with ⟨h_13,hp⟩|⟨h_13,hp⟩
  ·try simp at h_13
   cases hp
   simp [Goal,FnEnd,h_7,h_13]
  ·try simp at h_13
   obtain ⟨y_14,h_15,hp⟩:=zaa hp
   have c_16:=zjm h_15
   simp at c_16
   try simp [h_7,h_13,c_16]
   rcases zad hp with ⟨h_17,hp⟩|⟨h_17,hp⟩
   ·try simp at h_17
    obtain ⟨y_18,h_19,hp⟩:=zaa hp
    have c_20:=zjm h_19
    simp at c_20
    try simp [h_7,h_13,h_17,c_20]
    rcases zad hp with ⟨h_21,hp⟩|⟨h_21,hp⟩
    ·try simp at h_21
     obtain ⟨e_22,h_23,hp⟩:=zaa hp
     have b_24:=at_lo h_23
     have b_25:=at_hi h_23
     try simp at b_24 b_25
     have c_26:=seg_at' h_23 0 1 (by decide) (ds:=[.sc (.int .i64 e_22)]) rfl
     try simp at c_26
     cases hp
     simp [Goal,FnEnd,h_7,h_13,h_17,h_21,b_24,b_25,c_26]
    ·try simp at h_21
     cases hp
     simp [Goal,FnEnd,h_7,h_13,h_17,h_21]
   ·try simp at h_17
    obtain ⟨y_27,h_28,hp⟩:=zaa hp
    have c_29:=zjm h_28
    simp at c_29
    try simp [h_7,h_13,h_17,c_29]
    rcases zad hp with ⟨h_30,hp⟩|⟨h_30,hp⟩
    ·try simp at h_30
     obtain ⟨y_31,h_32,hp⟩:=zaa hp
     have c_33:=zjm h_32
     simp at c_33
     try simp [h_7,h_13,h_17,h_30,c_33]
     rcases zad hp with ⟨h_34,hp⟩|⟨h_34,hp⟩
     ·try simp at h_34
      obtain ⟨e_35,h_36,hp⟩:=zaa hp
      have b_37:=at_lo h_36
      have b_38:=at_hi h_36
      try simp at b_37 b_38
      have c_39:=seg_at' h_36 0 1 (by decide) (ds:=[.sc (.int .i64 e_35)]) rfl
      try simp at c_39
      cases hp
      simp [Goal,FnEnd,h_7,h_13,h_17,h_30,h_34,b_37,b_38,c_39]
     ·try simp at h_34
      cases hp
      simp [Goal,FnEnd,h_7,h_13,h_17,h_30,h_34]
    ·try simp at h_30
     obtain ⟨y_40,h_41,hp⟩:=zaa hp
     have c_42:=zjm h_41
     simp at c_42
     try simp [h_7,h_13,h_17,h_30,c_42]
     rcases zad hp with ⟨h_43,hp⟩|⟨h_43,hp⟩
     ·try simp at h_43
      obtain ⟨e_44,h_45,hp⟩:=zaa hp
      have b_46:=at_lo h_45
      have b_47:=at_hi h_45
      try simp at b_46 b_47
      have c_48:=seg_at' h_45 0 1 (by decide) (ds:=[.sc (.int .i64 e_44)]) rfl
      try simp at c_48
      cases hp
      simp [Goal,FnEnd,h_7,h_13,h_17,h_30,h_43,b_46,b_47,c_48]
     ·try simp at h_43
      cases hp
      simp [Goal,FnEnd,h_7,h_13,h_17,h_30,h_43]
 ·try simp at h_7
  cases hp
  simp [Goal,FnEnd,h_7]
theorem pc65:PC Tryz.prog 65 C65:=pc_of (g:=g65) (zag _ g65_s.2.1 ⟨pc48,pc62,pc90,trivial⟩) (ent Tryz.func65) fun x y h=>w65 h

def C64:List AV→Option AV:=specP (X:=Int × Unit) fun x=>zed x.1
theorem C64_eq {a_} {y} (h:zed a_=some y):C64 [av .shr a_]=some (Res.res y):=zah (x:=(a_,())) h
def g64:Cfg:={ P:=Tryz.prog,take:=[],keep:=[],gho:=[],ctx:=[(94,C94)] }
@[simp] theorem g64_s:type_of% (cfg_s (g:=g64) rfl):=cfg_s rfl
theorem w64 {a_} {y} (hp:zed a_=some y):∃ m,callo g64 0 64 [av .shr a_] mem0=some (Res.res y,m):=by
 refine st0 [.tmp 2] Tryz.func64 ?_
 unfold zed at hp
 obtain ⟨y_1,h_2,hp⟩:=zaa hp
 have c_3:=C94_eq h_2
 simp at c_3
 simp [Tryz.f64,c_3]
 rcases zad hp with ⟨h_4,hp⟩|⟨h_4,hp⟩
 ·try simp at h_4
  obtain ⟨z_5,h_6,hp⟩:=zaa hp
  have c_7:=sl_str Tryz.underlying9 h_6
  cases hp
  simp [Goal,FnEnd,h_4,c_7]
 ·try simp at h_4
  cases hp
  simp [Goal,FnEnd,h_4]
theorem pc64:PC Tryz.prog 64 C64:=pc_of (g:=g64) (zag _ g64_s.2.1 ⟨pc94,trivial⟩) (ent Tryz.func64) fun x y h=>w64 h

def C26:List AV→Option AV:=specP (X:=TStructure × Int × Unit) fun x=>zau x.1 x.2.1
theorem C26_eq {s i} {y} (h:zau s i=some y):C26 [av .shr s,av .shr i]=some (Res.res y):=zah (x:=(s,i,())) h
def g26:Cfg:={ P:=Tryz.prog,take:=[],keep:=[((26,5),{ hd:=[1,2,5,12,13],bx:=[],ex:=[5],rt:=[4] })],gho:=[],ctx:=[(62,C62),(63,C63),(64,C64),(65,C65)] }
@[simp] theorem g26_s:type_of% (cfg_s (g:=g26) rfl):=cfg_s rfl
theorem w26 {s i} {y} (hp:zau s i=some y):∃ m,callo g26 0 26 [av .shr s,av .shr i] mem0=some (Res.res y,m):=by
 refine st0 [.tmp 4] Tryz.func26 ?_
 unfold zau at hp
 obtain ⟨y_1,h_2,hp⟩:=zaa hp
 have c_3:=C62_eq h_2
 simp at c_3
 simp [Tryz.f26,c_3]
 rcases zad hp with ⟨h_4,hp⟩|⟨h_4,hp⟩
 ·try simp at h_4
  obtain ⟨y_5,h_6,hp⟩:=zaa hp
  have c_7:=C63_eq h_6
  simp at c_7
  try simp [h_4,c_7]
  obtain ⟨r_25,h_26,hp⟩:=zaa hp
  obtain ⟨I_10,I_10_⟩:=exV fun (s_8:ByteArray × Int) (σ:St)=>(σ.env 1=uI i∧σ.env 2=uP (1,2)∧σ.env 5=.one (.s (.string s_8.1))∧σ.env 12=uI y_5∧σ.env 13=uI s_8.2∧σ.mem (1,2)=some [cL .shr s.nodes,cL .shr s.next])∧NoBox [(1,2)] σ.mem
  obtain ⟨X_11,X_11_⟩:=exV fun (r_25:ByteArray) (out:Out)=>∃ σ:St,out=.exit 0 σ∧(σ.env 5=.one (.s (.string r_25))∧σ.mem (1,2)=some [cL .shr s.nodes,cL .shr s.next])∧NoBox [(1,2)] σ.mem
  refine loopP ({ hd:=[1,2,5,12,13],bx:=[],ex:=[5],rt:=[4] }) I_10 X_11 h_26 (by exact rfl) ?_ ?_ ?_
  ·rw [I_10_]
   exact ⟨by simp [zac,zab,h_4],NoBox.restrict (by intro k hk hb;simp at hk hb;simp [hk,hb,h_4])⟩
  ·intro s_8 σ_12 a_9 hI hp
   rw [I_10_] at hI
   obtain ⟨q_14,hn_13⟩:=hI
   try simp [h_4,q_14]
   rcases zad hp with ⟨h_15,hp⟩|⟨h_15,hp⟩
   ·try simp at h_15
    obtain ⟨y_16,h_17,hp⟩:=zaa hp
    have c_18:=C65_eq h_17
    simp at c_18
    obtain ⟨y_19,h_20,hp⟩:=zaa hp
    have c_21:=C64_eq h_20
    simp at c_21
    obtain ⟨z_22,h_23,hp⟩:=zaa hp
    have c_24:=cat_str (P:=Tryz.prog) (t:=9) h_23
    cases hp
    try simp [h_4,q_14,h_15,c_18,c_21,c_24]
    refine zaf ?_
    rw [I_10_]
    exact ⟨by simp [zac,zab,h_4,q_14,h_15,c_18,c_21,c_24],NoBox.restrict (by intro k hk hb;simp at hk hb;simp [hk,hb,h_4,q_14,h_15,c_18,c_21,c_24,hn_13 k (by simp [hk,hb])])⟩
   ·try simp at h_15
    cases hp
    try simp [h_4,q_14,h_15]
    refine zai ?_
    rw [X_11_]
    exact ⟨_,rfl,by simp [zac,zab,h_4,q_14,h_15],NoBox.restrict (by intro k hk hb;simp at hk hb;simp [hk,hb,h_4,q_14,h_15,hn_13 k (by simp [hk,hb])])⟩
  ·intro out hX
   rw [X_11_] at hX
   obtain ⟨σ_27,rfl,q_29,hn_28⟩:=hX
   cases hp
   simp [Goal,FnEnd,h_4,q_29]
 ·try simp at h_4
  cases hp
  simp [Goal,FnEnd,h_4]
theorem pc26:PC Tryz.prog 26 C26:=pc_of (g:=g26) (zag _ g26_s.2.1 ⟨pc62,pc63,pc64,pc65,trivial⟩) (ent Tryz.func26) fun x y h=>w26 h

def C99:List AV→Option AV:=specP (X:=TStructure × Int × Int × Unit) fun x=>zfg x.1 x.2.1 x.2.2.1
theorem C99_eq {s i j} {y} (h:zfg s i j=some y):C99 [av .shr s,av .shr i,av .shr j]=some (Res.res y):=zah (x:=(s,i,j,())) h
def g99:Cfg:={ P:=Tryz.prog,take:=[],keep:=[],gho:=[],ctx:=[(62,C62)] }
@[simp] theorem g99_s:type_of% (cfg_s (g:=g99) rfl):=cfg_s rfl
theorem w99 {s i j} {y} (hp:zfg s i j=some y):∃ m,callo g99 0 99 [av .shr s,av .shr i,av .shr j] mem0=some (Res.res y,m):=by
 refine st0 [.tmp 6] Tryz.func99 ?_
 unfold zfg at hp
 obtain ⟨y_1,h_2,hp⟩:=zaa hp
 have c_3:=C62_eq h_2
 simp at c_3
 simp [Tryz.f99,c_3]
 rcases zad hp with ⟨h_4,hp⟩|⟨h_4,hp⟩
 ·try simp at h_4
  obtain ⟨y_5,h_6,hp⟩:=zaa hp
  have c_7:=C62_eq h_6
  simp at c_7
  try simp [h_4,c_7]
  rcases zad hp with ⟨h_8,hp⟩|⟨h_8,hp⟩
  ·try simp at h_8
   try simp [h_4,h_8]
   rcases zad hp with ⟨h_9,hp⟩|⟨h_9,hp⟩
   ·try simp at h_9
    cases hp
    simp [Goal,FnEnd,h_4,h_8,h_9]
   ·try simp at h_9
    obtain ⟨e_10,h_11,hp⟩:=zaa hp
    have b_12:=at_lo h_11
    have b_13:=at_hi h_11
    try simp at b_12 b_13
    have c_14:=seg_at' h_11 0 1 (by decide) (ds:=[.sc (.int .i64 e_10)]) rfl
    try simp at c_14
    cases hp
    simp [Goal,FnEnd,h_4,h_8,h_9,b_12,b_13,c_14]
  ·try simp at h_8
   cases hp
   simp [Goal,FnEnd,h_4,h_8]
 ·try simp at h_4
  cases hp
  simp [Goal,FnEnd,h_4]
theorem pc99:PC Tryz.prog 99 C99:=pc_of (g:=g99) (zag _ g99_s.2.1 ⟨pc62,trivial⟩) (ent Tryz.func99) fun x y h=>w99 h

def C100:List AV→Option AV:=specP (X:=Int × Int × Unit) fun x=>zfu x.1 x.2.1
theorem C100_eq {a_ b_} {y} (h:zfu a_ b_=some y):C100 [av .shr a_,av .shr b_]=some (Res.res y):=zah (x:=(a_,b_,())) h
def g100:Cfg:={ P:=Tryz.prog,take:=[],keep:=[],gho:=[],ctx:=[(94,C94)] }
@[simp] theorem g100_s:type_of% (cfg_s (g:=g100) rfl):=cfg_s rfl
theorem w100 {a_ b_} {y} (hp:zfu a_ b_=some y):∃ m,callo g100 0 100 [av .shr a_,av .shr b_] mem0=some (Res.res y,m):=by
 refine st0 [.tmp 4] Tryz.func100 ?_
 unfold zfu at hp
 simp [Tryz.f100]
 rcases zad hp with ⟨h_1,hp⟩|⟨h_1,hp⟩
 ·try simp at h_1
  cases hp
  simp [Goal,FnEnd,h_1]
 ·try simp at h_1
  obtain ⟨y_2,h_3,hp⟩:=zaa hp
  have c_4:=C94_eq h_3
  simp at c_4
  try simp [h_1,c_4]
  rcases zad hp with ⟨h_5,hp⟩|⟨h_5,hp⟩
  ·try simp at h_5
   cases hp
   simp [Goal,FnEnd,h_1,h_5]
  ·try simp at h_5
   cases hp
   simp [Goal,FnEnd,h_1,h_5]
theorem pc100:PC Tryz.prog 100 C100:=pc_of (g:=g100) (zag _ g100_s.2.1 ⟨pc94,trivial⟩) (ent Tryz.func100) fun x y h=>w100 h

def C53:List AV→Option AV:=specP (X:=TStructure × (List Int) × (List Int) × Unit) fun x=>zdx x.1 x.2.1 x.2.2.1
theorem C53_eq {s from_ to_} {y} (h:zdx s from_ to_=some y):C53 [av .shr s,av .shr from_,av .shr to_]=some (Res.res y):=zah (x:=(s,from_,to_,())) h
def g53:Cfg:={ P:=Tryz.prog,take:=[],keep:=[((53,3),{ hd:=[2,3,7,20,21,22],bx:=[],ex:=[7],rt:=[6] }),((53,6),{ hd:=[2,3,7,9,20,21,22,26,27,28],bx:=[],ex:=[2,3,7,20,21,22],rt:=[6] })],gho:=[],ctx:=[(99,C99),(100,C100)] }
@[simp] theorem g53_s:type_of% (cfg_s (g:=g53) rfl):=cfg_s rfl
theorem w53 {s from_ to_} {y} (hp:zdx s from_ to_=some y):∃ m,callo g53 0 53 [av .shr s,av .shr from_,av .shr to_] mem0=some (Res.res y,m):=by
 refine st0 [.tmp 6] Tryz.func53 ?_
 unfold zdx at hp
 obtain ⟨e_1,h_2,hp⟩:=zaa hp
 have b_4:=at_hi h_2
 try simp at b_4
 have c_5:=seg_at' h_2 0 1 (by decide) (ds:=[.sc (.int .i64 e_1)]) rfl
 try simp at c_5
 obtain ⟨e_6,h_7,hp⟩:=zaa hp
 have b_9:=at_hi h_7
 try simp at b_9
 have c_10:=seg_at' h_7 0 1 (by decide) (ds:=[.sc (.int .i64 e_6)]) rfl
 try simp at c_10
 obtain ⟨y_11,h_12,hp⟩:=zaa hp
 have c_13:=C99_eq h_12
 simp at c_13
 simp [Tryz.f53,b_4,c_5,b_9,c_10,c_13]
 obtain ⟨r_51,h_52,hp⟩:=zaa hp
 obtain ⟨I_16,I_16_⟩:=exV fun (s_14:Int × Int) (σ:St)=>(σ.env 2=uL .shr to_∧σ.env 3=uP (1,3)∧σ.env 7=uI s_14.1∧σ.env 20=uL .shr from_∧σ.env 21=uI (from_.length:Int)∧σ.env 22=uI s_14.2∧σ.mem (1,3)=some [cL .shr s.nodes,cL .shr s.next])∧NoBox [(1,3)] σ.mem
 obtain ⟨X_17,X_17_⟩:=exV fun (r_51:Int) (out:Out)=>∃ σ:St,out=.exit 0 σ∧(σ.env 7=uI r_51∧σ.mem (1,3)=some [cL .shr s.nodes,cL .shr s.next])∧NoBox [(1,3)] σ.mem
 refine loopP ({ hd:=[2,3,7,20,21,22],bx:=[],ex:=[7],rt:=[6] }) I_16 X_17 h_52 (by exact rfl) ?_ ?_ ?_
 ·rw [I_16_]
  exact ⟨by simp [zac,zab],NoBox.restrict (by intro k hk hb;simp at hk hb;simp [hk,hb])⟩
 ·intro s_14 σ_18 a_15 hI hp
  rw [I_16_] at hI
  obtain ⟨q_20,hn_19⟩:=hI
  try simp [q_20]
  rcases zad hp with ⟨h_21,hp⟩|⟨h_21,hp⟩
  ·try simp at h_21
   obtain ⟨e_22,h_23,hp⟩:=zaa hp
   have b_24:=at_lo h_23
   have b_25:=at_hi h_23
   try simp at b_24 b_25
   have c_26:=seg_at' h_23 0 1 (by decide) (ds:=[.sc (.int .i64 e_22)]) rfl
   try simp at c_26
   try simp [q_20,h_21,b_24,b_25,c_26]
   obtain ⟨r_46,h_47,hp⟩:=zaa hp
   obtain ⟨I_29,I_29_⟩:=exV fun (s_27:Int × Int) (σ:St)=>(σ.env 2=uL .shr to_∧σ.env 3=uP (1,3)∧σ.env 7=uI s_27.1∧σ.env 9=uI e_22∧σ.env 20=uL .shr from_∧σ.env 21=uI (from_.length:Int)∧σ.env 22=uI s_14.2∧σ.env 26=uL .shr to_∧σ.env 27=uI (to_.length:Int)∧σ.env 28=uI s_27.2∧σ.mem (1,3)=some [cL .shr s.nodes,cL .shr s.next])∧NoBox [(1,3)] σ.mem
   obtain ⟨X_30,X_30_⟩:=exV fun (r_46:Int) (out:Out)=>∃ σ:St,out=.exit 2 σ∧(σ.env 2=uL .shr to_∧σ.env 3=uP (1,3)∧σ.env 7=uI r_46∧σ.env 20=uL .shr from_∧σ.env 21=uI (from_.length:Int)∧σ.env 22=uI s_14.2∧σ.mem (1,3)=some [cL .shr s.nodes,cL .shr s.next])∧NoBox [(1,3)] σ.mem
   refine loopP ({ hd:=[2,3,7,9,20,21,22,26,27,28],bx:=[],ex:=[2,3,7,20,21,22],rt:=[6] }) I_29 X_30 h_47 (by exact rfl) ?_ ?_ ?_
   ·rw [I_29_]
    exact ⟨by simp [zac,zab,q_20,h_21],NoBox.restrict (by intro k hk hb;simp at hk hb;simp [hk,hb,q_20,h_21,hn_19 k (by simp [hk,hb])])⟩
   ·intro s_27 σ_31 a_28 hI hp
    rw [I_29_] at hI
    obtain ⟨q_33,hn_32⟩:=hI
    try simp [h_21,q_33]
    rcases zad hp with ⟨h_34,hp⟩|⟨h_34,hp⟩
    ·try simp at h_34
     obtain ⟨e_35,h_36,hp⟩:=zaa hp
     have b_37:=at_lo h_36
     have b_38:=at_hi h_36
     try simp at b_37 b_38
     have c_39:=seg_at' h_36 0 1 (by decide) (ds:=[.sc (.int .i64 e_35)]) rfl
     try simp at c_39
     obtain ⟨y_40,h_41,hp⟩:=zaa hp
     have c_42:=C99_eq h_41
     simp at c_42
     obtain ⟨y_43,h_44,hp⟩:=zaa hp
     have c_45:=C100_eq h_44
     simp at c_45
     cases hp
     try simp [h_21,q_33,h_34,b_37,b_38,c_39,c_42,c_45]
     refine zaf ?_
     rw [I_29_]
     exact ⟨by simp [zac,zab,h_21,q_33,h_34,b_37,b_38,c_39,c_42,c_45],NoBox.restrict (by intro k hk hb;simp at hk hb;simp [hk,hb,h_21,q_33,h_34,b_37,b_38,c_39,c_42,c_45,hn_32 k (by simp [hk,hb])])⟩
    ·try simp at h_34
     cases hp
     try simp [h_21,q_33,h_34]
     refine zai ?_
     rw [X_30_]
     exact ⟨_,rfl,by simp [zac,zab,h_21,q_33,h_34],NoBox.restrict (by intro k hk hb;simp at hk hb;simp [hk,hb,h_21,q_33,h_34,hn_32 k (by simp [hk,hb])])⟩
   ·intro out hX
    rw [X_30_] at hX
    obtain ⟨σ_48,rfl,q_50,hn_49⟩:=hX
    cases hp
    try simp [h_21,q_50]
    refine zaf ?_
    rw [I_16_]
    exact ⟨by simp [zac,zab,h_21,q_50],NoBox.restrict (by intro k hk hb;simp at hk hb;simp [hk,hb,h_21,q_50,hn_49 k (by simp [hk,hb])])⟩
  ·try simp at h_21
   cases hp
   try simp [q_20,h_21]
   refine zai ?_
   rw [X_17_]
   exact ⟨_,rfl,by simp [zac,zab,q_20,h_21],NoBox.restrict (by intro k hk hb;simp at hk hb;simp [hk,hb,q_20,h_21,hn_19 k (by simp [hk,hb])])⟩
 ·intro out hX
  rw [X_17_] at hX
  obtain ⟨σ_53,rfl,q_55,hn_54⟩:=hX
  cases hp
  simp [Goal,FnEnd,q_55]
theorem pc53:PC Tryz.prog 53 C53:=pc_of (g:=g53) (zag _ g53_s.2.1 ⟨pc99,pc100,trivial⟩) (ent Tryz.func53) fun x y h=>w53 h
end Go.Proofs

