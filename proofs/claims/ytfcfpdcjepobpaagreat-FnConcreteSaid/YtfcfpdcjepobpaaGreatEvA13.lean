import Derived.Test.YtfcfpdcjepobpaaGreatEvA12
set_option linter.unusedSimpArgs false
set_option linter.unusedVariables false
set_option linter.unnecessarySimpa false
noncomputable section
set_option maxHeartbeats 4000000
set_option maxRecDepth 100000
namespace Go.Proofs
open Go.Ev
def C82:List C→List AV→Option (AV × List C):=specX (T:=TL1Cur) (X:=Unit) (R:=(Int)) fun x t=>zdd t
theorem C82_eq {c} {y} (h:zdd c=some y):C82 (bxT c) []=some (Res.res y.1,bxT y.2):=zku (T:=TL1Cur) (X:=Unit) (R:=(Int)) (F:=fun x t=>zdd t ) (x:=(())) h
def g82:Cfg:={ P:=Tryz.prog,take:=[],keep:=[],gho:=[],ctx:=[] }
@[simp] theorem g82_s:type_of% (cfg_s (g:=g82) rfl):=cfg_s rfl
theorem w82 {c} {mem:Mem} (hT:Tight 0 mem) (hq0:mem (0,0)=some [cL .shr c.b,cI c.i,cI c.h]) (hn0:NoBox [(0,0)] mem) {y} (hp:zdd c=some y):∃ m,callo g82 0 82 [.one (.ptr (0,0) 0)] mem=some (Res.res y.1,m)∧(m (0,0)=some [cL .shr y.2.b,cI y.2.i,cI y.2.h]∧Tight 0 m∧NoBox [(0,0)] m):=by
 refine stD [.tmp 2] Tryz.func82 fun QV QV_=>?_
 unfold zdd at hp
 simp [Tryz.f82,hq0]
 rcases zad hp with ⟨h_1,hp⟩|⟨h_1,hp⟩
 ·try simp at h_1
  obtain ⟨e_2,h_3,hp⟩:=zab hp
  have b_4:=at_lo h_3
  have b_5:=at_hi h_3
  try simp at b_4 b_5
  have c_6:=seg_at' h_3 0 1 (by decide) (ds:=[.sc (.int .u8 e_2.v)]) rfl
  try simp at c_6
  cases hp
  simp [Goal,FnEndD,retR,rsrc,RSrc.val,nodupR,nodup,tupPart,hq0,h_1,b_4,b_5,c_6,zpu Tryz.underlying5 Tryz.underlying3]
  rw [QV_]
  exact ⟨by simp [hq0,h_1,b_4,b_5,c_6,zpu Tryz.underlying5 Tryz.underlying3],zgu _ _,zgw (L':=[(0,0)]) (by intro k hk;simp at hk;simp [hk,hq0,h_1,b_4,b_5,c_6,zpu Tryz.underlying5 Tryz.underlying3,hn0 k (by simp [hk])]) (by simp)⟩
 ·try simp at h_1
  cases hp
  simp [Goal,FnEndD,retR,rsrc,RSrc.val,nodupR,nodup,tupPart,hq0,h_1]
  rw [QV_]
  exact ⟨by simp [hq0,h_1],zgu _ _,zgw (L':=[(0,0)]) (by intro k hk;simp at hk;simp [hk,hq0,h_1,hn0 k (by simp [hk])]) (by simp)⟩
theorem px82:PX Tryz.prog 82 C82:=px_of (g:=g82) (zai [] rfl trivial) (ent Tryz.func82) fun x t y h=>by
 obtain ⟨m,h1,h2,_,h3⟩:=w82 (mem:=upd mem0 (0,0) (some (bxT t))) (Tight.upd (zan _) (by simp) (by simp)) (by simp [upd,bxT]) (zjc _ _) h
 exact ⟨m,h1,h2,h3⟩

def C41:List C→List AV→Option (AV × List C):=specX (T:=TL1Cur) (X:=Int × Unit) (R:=(Int)) fun x t=>zbr t x.1
theorem zpa {c n_} {y} (h:zbr c n_=some y):C41 (bxT c) [av .shr n_]=some (Res.res y.1,bxT y.2):=zku (T:=TL1Cur) (X:=Int × Unit) (R:=(Int)) (F:=fun x t=>zbr t x.1) (x:=(n_,())) h
def g41:Cfg:={ P:=Tryz.prog,take:=[],keep:=[],gho:=[],ctx:=[],pctx:=[(82,C82)] }
@[simp] theorem g41_s:type_of% (cfg_s (g:=g41) rfl):=cfg_s rfl
theorem zoj:PxOK g41 82 C82:=⟨rfl,rfl,Tryz.f82,Tryz.f82.body.getD .skip,Tryz.func82,by kernel_rfl⟩
theorem w41 {c n_} {mem:Mem} (hT:Tight 0 mem) (hq0:mem (0,0)=some [cL .shr c.b,cI c.i,cI c.h]) (hn0:NoBox [(0,0)] mem) {y} (hp:zbr c n_=some y):∃ m,callo g41 0 41 [.one (.ptr (0,0) 0),av .shr n_] mem=some (Res.res y.1,m)∧(m (0,0)=some [cL .shr y.2.b,cI y.2.i,cI y.2.h]∧Tight 0 m∧NoBox [(0,0)] m):=by
 refine stD [.tmp 4] Tryz.func41 fun QV QV_=>?_
 unfold zbr at hp
 simp [Tryz.f41,hq0]
 rcases zad hp with ⟨h_1,hp⟩|⟨h_1,hp⟩
 ·try simp at h_1
  cases hp
  simp [Goal,FnEndD,retR,rsrc,RSrc.val,nodupR,nodup,tupPart,hq0,h_1]
  rw [QV_]
  exact ⟨by simp [hq0,h_1],zgu _ _,zgw (L':=[(0,0)]) (by intro k hk;simp at hk;simp [hk,hq0,h_1,hn0 k (by simp [hk])]) (by simp)⟩
 ·try simp at h_1
  try simp [hq0,h_1]
  rcases zad hp with ⟨h_2,hp⟩|⟨h_2,hp⟩
  ·try simp at h_2
   obtain ⟨y_3,h_4,hp⟩:=zab hp
   try simp [hq0,h_1,h_2]
   refine zbt (0,0) (C82_eq h_4) zoj (by simp [hq0,h_1,h_2]) (by simp) (by simp [hq0,h_1,h_2]) (.inr (by decide)) ?_
   obtain ⟨z_5,h_6,hp⟩:=zab hp
   have c_7:=fun t x y=>tb_rem Tryz.prog t x y h_6
   cases hp
   simp [Goal,FnEndD,retR,rsrc,RSrc.val,nodupR,nodup,tupPart,hq0,h_1,h_2,c_7]
   rw [QV_]
   exact ⟨by simp [hq0,h_1,h_2,c_7],zgu _ _,zgw (L':=[(0,0)]) (by intro k hk;simp at hk;simp [hk,hq0,h_1,h_2,c_7,hn0 k (by simp [hk])]) (by simp)⟩
  ·try simp at h_2
   obtain ⟨y_8,h_9,hp⟩:=zab hp
   try simp [hq0,h_1,h_2]
   refine zbt (0,0) (C82_eq h_9) zoj (by simp [hq0,h_1,h_2]) (by simp) (by simp [hq0,h_1,h_2]) (.inr (by decide)) ?_
   obtain ⟨y_10,h_11,hp⟩:=zab hp
   try simp [hq0,h_1,h_2]
   refine zbt (0,0) (C82_eq h_11) zoj (by simp [hq0,h_1,h_2]) (by simp) (by simp [hq0,h_1,h_2]) (.inr (by decide)) ?_
   obtain ⟨y_12,h_13,hp⟩:=zab hp
   try simp [hq0,h_1,h_2]
   refine zbt (0,0) (C82_eq h_13) zoj (by simp [hq0,h_1,h_2]) (by simp) (by simp [hq0,h_1,h_2]) (.inr (by decide)) ?_
   obtain ⟨y_14,h_15,hp⟩:=zab hp
   try simp [hq0,h_1,h_2]
   refine zbt (0,0) (C82_eq h_15) zoj (by simp [hq0,h_1,h_2]) (by simp) (by simp [hq0,h_1,h_2]) (.inr (by decide)) ?_
   obtain ⟨z_16,h_17,hp⟩:=zab hp
   have c_18:=fun t x y=>tb_rem Tryz.prog t x y h_17
   cases hp
   simp [Goal,FnEndD,retR,rsrc,RSrc.val,nodupR,nodup,tupPart,hq0,h_1,h_2,c_18]
   rw [QV_]
   exact ⟨by simp [hq0,h_1,h_2,c_18],zgu _ _,zgw (L':=[(0,0)]) (by intro k hk;simp at hk;simp [hk,hq0,h_1,h_2,c_18,hn0 k (by simp [hk])]) (by simp)⟩
theorem px41:PX Tryz.prog 41 C41:=px_of (g:=g41) (zhr [] rfl trivial [] rfl trivial [] rfl trivial [(82,C82)] rfl ⟨px82,trivial⟩) (ent Tryz.func41) fun x t y h=>by
 obtain ⟨m,h1,h2,_,h3⟩:=w41 (mem:=upd mem0 (0,0) (some (bxT t))) (Tight.upd (zan _) (by simp) (by simp)) (by simp [upd,bxT]) (zjc _ _) h
 exact ⟨m,h1,h2,h3⟩

def C116:List C→List AV→Option (AV × List C):=specX (T:=TL1Cur) (X:=Int × Unit) (R:=(Bool)) fun x t=>zeu t x.1
theorem C116_eq {c n_} {y} (h:zeu c n_=some y):C116 (bxT c) [av .shr n_]=some (Res.res y.1,bxT y.2):=zku (T:=TL1Cur) (X:=Int × Unit) (R:=(Bool)) (F:=fun x t=>zeu t x.1) (x:=(n_,())) h
def g116:Cfg:={ P:=Tryz.prog,take:=[],keep:=[],gho:=[],ctx:=[],pctx:=[(41,C41)] }
@[simp] theorem g116_s:type_of% (cfg_s (g:=g116) rfl):=cfg_s rfl
theorem g116_x41:PxOK g116 41 C41:=⟨rfl,rfl,Tryz.f41,Tryz.f41.body.getD .skip,Tryz.func41,by kernel_rfl⟩
theorem w116 {c n_} {mem:Mem} (hT:Tight 0 mem) (hq0:mem (0,0)=some [cL .shr c.b,cI c.i,cI c.h]) (hn0:NoBox [(0,0)] mem) {y} (hp:zeu c n_=some y):∃ m,callo g116 0 116 [.one (.ptr (0,0) 0),av .shr n_] mem=some (Res.res y.1,m)∧(m (0,0)=some [cL .shr y.2.b,cI y.2.i,cI y.2.h]∧Tight 0 m∧NoBox [(0,0)] m):=by
 refine stD [.tmp 4] Tryz.func116 fun QV QV_=>?_
 unfold zeu at hp
 obtain ⟨y_1,h_2,hp⟩:=zab hp
 simp [Tryz.f116,hq0]
 refine zbt (0,0) (zpa h_2) g116_x41 (by simp [hq0]) (by simp) (by simp [hq0]) (.inr (by decide)) ?_
 cases hp
 simp [Goal,FnEndD,retR,rsrc,RSrc.val,nodupR,nodup,tupPart,hq0]
 rw [QV_]
 exact ⟨by simp [hq0],zgu _ _,zgw (L':=[(0,0)]) (by intro k hk;simp at hk;simp [hk,hq0,hn0 k (by simp [hk])]) (by simp)⟩
theorem px116:PX Tryz.prog 116 C116:=px_of (g:=g116) (zhr [] rfl trivial [] rfl trivial [] rfl trivial [(41,C41)] rfl ⟨px41,trivial⟩) (ent Tryz.func116) fun x t y h=>by
 obtain ⟨m,h1,h2,_,h3⟩:=w116 (mem:=upd mem0 (0,0) (some (bxT t))) (Tight.upd (zan _) (by simp) (by simp)) (by simp [upd,bxT]) (zjc _ _) h
 exact ⟨m,h1,h2,h3⟩

def C79:List C→List AV→Option (AV × List C):=specX (T:=TL1Cur) (X:=Int × Unit) (R:=(THeap)) fun x t=>zfh t x.1
theorem C79_eq {c vars} {y} (h:zfh c vars=some y):C79 (bxT c) [av .shr vars]=some (Res.res y.1,bxT y.2):=zku (T:=TL1Cur) (X:=Int × Unit) (R:=(THeap)) (F:=fun x t=>zfh t x.1) (x:=(vars,())) h
def g79:Cfg:={ P:=Tryz.prog,take:=[(79,29),(79,53)],keep:=[((79,4),{ hd:=[0,1,4,5,6,7],bx:=[],ex:=[0,1,4,5,6],rt:=[4] }),((79,11),{ hd:=[0,1,4,5,6,9],bx:=[],ex:=[4,5],rt:=[4] })],gho:=[],ctx:=[(117,C117)],pctx:=[(41,C41),(116,C116)] }
@[simp] theorem g79_s:type_of% (cfg_s (g:=g79) rfl):=cfg_s rfl
theorem g79_x41:PxOK g79 41 C41:=⟨rfl,rfl,Tryz.f41,Tryz.f41.body.getD .skip,Tryz.func41,by kernel_rfl⟩
theorem g79_x116:PxOK g79 116 C116:=⟨rfl,rfl,Tryz.f116,Tryz.f116.body.getD .skip,Tryz.func116,by kernel_rfl⟩
theorem w79 {c vars} {mem:Mem} (hT:Tight 0 mem) (hq0:mem (0,0)=some [cL .shr c.b,cI c.i,cI c.h]) (hn0:NoBox [(0,0)] mem) {y} (hp:zfh c vars=some y):∃ m,callo g79 0 79 [.one (.ptr (0,0) 0),av .shr vars] mem=some (Res.res y.1,m)∧(m (0,0)=some [cL .shr y.2.b,cI y.2.i,cI y.2.h]∧Tight 0 m∧NoBox [(0,0)] m):=by
 refine stD [.cell 4 36] Tryz.func79 fun QV QV_=>?_
 unfold zfh at hp
 have n_1:=hn0 (1,4) (by simp)
 have n_2:=hn0 (1,5) (by simp)
 obtain ⟨y_3,h_4,hp⟩:=zab hp
 simp [Tryz.f79,hq0,n_1,n_2]
 refine zbt (0,0) (zpa h_4) g79_x41 (by simp [hq0]) (by simp) (by simp [hq0]) (.inr (by decide)) ?_
 try simp [hq0]
 obtain ⟨r_22,h_23,hp⟩:=zab hp
 obtain ⟨I_7,I_7_⟩:=exV fun (s_5:Int × (List U8) × Int × Int × (List Int)) (σ:St)=>(σ.env 0=uP (0,0)∧σ.env 1=uI vars∧σ.env 4=uP (1,4)∧σ.env 5=uP (1,5)∧σ.env 6=uI y_3.1∧σ.env 7=uI s_5.1∧σ.mem (0,0)=some [cL .shr s_5.2.1,cI s_5.2.2.1,cI s_5.2.2.2.1]∧σ.mem (1,4)=some [.l .own 0 [],.l .own 0 []]∧σ.mem (1,5)=some [.l .own 0 [],cL .own s_5.2.2.2.2])∧NoBox [(0,0),(1,4),(1,5)] σ.mem
 obtain ⟨X_8,X_8_⟩:=exV fun (r_22:(List U8) × Int × Int × (List Int)) (out:Out)=>∃ σ:St,out=.exit 0 σ∧(σ.env 0=uP (0,0)∧σ.env 1=uI vars∧σ.env 4=uP (1,4)∧σ.env 5=uP (1,5)∧σ.env 6=uI y_3.1∧σ.mem (0,0)=some [cL .shr r_22.1,cI r_22.2.1,cI r_22.2.2.1]∧σ.mem (1,4)=some [.l .own 0 [],.l .own 0 []]∧σ.mem (1,5)=some [.l .own 0 [],cL .own r_22.2.2.2])∧NoBox [(0,0),(1,4),(1,5)] σ.mem
 refine loopP ({ hd:=[0,1,4,5,6,7],bx:=[],ex:=[0,1,4,5,6],rt:=[4] }) I_7 X_8 h_23 (by exact rfl) ?_ ?_ ?_
 ·rw [I_7_]
  exact ⟨by simp [zac,zaa,hq0],NoBox.restrict (by intro k hk hb;simp at hk hb;simp [hk,hb,hq0,hn0 k (by simp [hk,hb])])⟩
 ·intro s_5 σ_9 a_6 hI hp
  rw [I_7_] at hI
  obtain ⟨q_11,hn_10⟩:=hI
  try simp [hq0,q_11]
  rcases zad hp with ⟨h_12,hp⟩|⟨h_12,hp⟩
  ·try simp at h_12
   obtain ⟨y_13,h_14,hp⟩:=zab hp
   try simp [hq0,q_11,h_12]
   refine zbt (0,0) (C116_eq h_14) g79_x116 (by simp [hq0,q_11,h_12]) (by simp) (by simp [hq0,q_11,h_12]) (.inr (by decide)) ?_
   try simp [hq0,q_11,h_12]
   rcases zad hp with ⟨h_15,hp⟩|⟨h_15,hp⟩
   ·try simp at h_15
    obtain ⟨y_16,h_17,hp⟩:=zab hp
    try simp [hq0,q_11,h_12,h_15]
    refine zbt (0,0) (zpa h_17) g79_x41 (by simp [hq0,q_11,h_12,h_15]) (by simp) (by simp [hq0,q_11,h_12,h_15]) (.inr (by decide)) ?_
    obtain ⟨_,h_18,hp⟩:=zab hp
    have b_19:=zap h_18
    try simp at b_19
    cases hp
    try simp [hq0,q_11,h_12,h_15,b_19]
    refine zae ?_
    rw [I_7_]
    exact ⟨by simp [zac,zaa,hq0,q_11,h_12,h_15,b_19],NoBox.restrict (by intro k hk hb;simp at hk hb;simp [hk,hb,hq0,q_11,h_12,h_15,b_19,hn_10 k (by simp [hk,hb])])⟩
   ·try simp at h_15
    obtain ⟨_,h_20,hp⟩:=zab hp
    have b_21:=zap h_20
    try simp at b_21
    cases hp
    try simp [hq0,q_11,h_12,h_15,b_21]
    refine zae ?_
    rw [I_7_]
    exact ⟨by simp [zac,zaa,hq0,q_11,h_12,h_15,b_21],NoBox.restrict (by intro k hk hb;simp at hk hb;simp [hk,hb,hq0,q_11,h_12,h_15,b_21,hn_10 k (by simp [hk,hb])])⟩
  ·try simp at h_12
   cases hp
   try simp [hq0,q_11,h_12]
   refine zag ?_
   rw [X_8_]
   exact ⟨_,rfl,by simp [zac,zaa,hq0,q_11,h_12],NoBox.restrict (by intro k hk hb;simp at hk hb;simp [hk,hb,hq0,q_11,h_12,hn_10 k (by simp [hk,hb])])⟩
 ·intro out hX
  rw [X_8_] at hX
  obtain ⟨σ_24,rfl,q_26,hn_25⟩:=hX
  try simp [hq0,q_26]
  obtain ⟨r_47,h_48,hp⟩:=zab hp
  obtain ⟨I_29,I_29_⟩:=exV fun (s_27:Int × (List U8) × Int × Int × (List Int)) (σ:St)=>(σ.env 0=uP (0,0)∧σ.env 1=uI vars∧σ.env 4=uP (1,4)∧σ.env 5=uP (1,5)∧σ.env 6=uI y_3.1∧σ.env 9=uI s_27.1∧σ.mem (0,0)=some [cL .shr s_27.2.1,cI s_27.2.2.1,cI s_27.2.2.2.1]∧σ.mem (1,4)=some [.l .own 0 [],.l .own 0 []]∧σ.mem (1,5)=some [cL .own s_27.2.2.2.2,cL .own r_22.2.2.2])∧NoBox [(0,0),(1,4),(1,5)] σ.mem
  obtain ⟨X_30,X_30_⟩:=exV fun (r_47:(List U8) × Int × Int × (List Int)) (out:Out)=>∃ σ:St,out=.exit 2 σ∧(σ.env 4=uP (1,4)∧σ.env 5=uP (1,5)∧σ.mem (0,0)=some [cL .shr r_47.1,cI r_47.2.1,cI r_47.2.2.1]∧σ.mem (1,4)=some [.l .own 0 [],.l .own 0 []]∧σ.mem (1,5)=some [cL .own r_47.2.2.2,cL .own r_22.2.2.2])∧NoBox [(0,0),(1,4),(1,5)] σ.mem
  refine loopP ({ hd:=[0,1,4,5,6,9],bx:=[],ex:=[4,5],rt:=[4] }) I_29 X_30 h_48 (by exact rfl) ?_ ?_ ?_
  ·rw [I_29_]
   exact ⟨by simp [zac,zaa,hq0,q_26],NoBox.restrict (by intro k hk hb;simp at hk hb;simp [hk,hb,hq0,q_26,hn_25 k (by simp [hk,hb])])⟩
  ·intro s_27 σ_31 a_28 hI hp
   rw [I_29_] at hI
   obtain ⟨q_33,hn_32⟩:=hI
   try simp [hq0,q_33]
   rcases zad hp with ⟨h_34,hp⟩|⟨h_34,hp⟩
   ·try simp at h_34
    obtain ⟨y_35,h_36,hp⟩:=zab hp
    try simp [hq0,q_33,h_34]
    refine zbt (0,0) (zpa h_36) g79_x41 (by simp [hq0,q_33,h_34]) (by simp) (by simp [hq0,q_33,h_34]) (.inr (by decide)) ?_
    try simp [hq0,q_33,h_34]
    rcases zad hp with ⟨h_37,hp⟩|⟨h_37,hp⟩
    ·try simp at h_37
     obtain ⟨y_38,h_39,hp⟩:=zab hp
     try simp [hq0,q_33,h_34,h_37]
     refine zbt (0,0) (C116_eq h_39) g79_x116 (by simp [hq0,q_33,h_34,h_37]) (by simp) (by simp [hq0,q_33,h_34,h_37]) (.inr (by decide)) ?_
     try simp [hq0,q_33,h_34,h_37]
     rcases zad hp with ⟨h_40,hp⟩|⟨h_40,hp⟩
     ·try simp at h_40
      obtain ⟨_,h_41,hp⟩:=zab hp
      have b_42:=zap h_41
      try simp at b_42
      cases hp
      try simp [hq0,q_33,h_34,h_37,h_40,b_42]
      refine zae ?_
      rw [I_29_]
      exact ⟨by simp [zac,zaa,hq0,q_33,h_34,h_37,h_40,b_42],NoBox.restrict (by intro k hk hb;simp at hk hb;simp [hk,hb,hq0,q_33,h_34,h_37,h_40,b_42,hn_32 k (by simp [hk,hb])])⟩
     ·try simp at h_40
      obtain ⟨_,h_43,hp⟩:=zab hp
      have b_44:=zap h_43
      try simp at b_44
      cases hp
      try simp [hq0,q_33,h_34,h_37,h_40,b_44]
      refine zae ?_
      rw [I_29_]
      exact ⟨by simp [zac,zaa,hq0,q_33,h_34,h_37,h_40,b_44],NoBox.restrict (by intro k hk hb;simp at hk hb;simp [hk,hb,hq0,q_33,h_34,h_37,h_40,b_44,hn_32 k (by simp [hk,hb])])⟩
    ·try simp at h_37
     obtain ⟨_,h_45,hp⟩:=zab hp
     have b_46:=zap h_45
     try simp at b_46
     cases hp
     try simp [hq0,q_33,h_34,h_37,b_46]
     refine zae ?_
     rw [I_29_]
     exact ⟨by simp [zac,zaa,hq0,q_33,h_34,h_37,b_46],NoBox.restrict (by intro k hk hb;simp at hk hb;simp [hk,hb,hq0,q_33,h_34,h_37,b_46,hn_32 k (by simp [hk,hb])])⟩
   ·try simp at h_34
    cases hp
    try simp [hq0,q_33,h_34]
    refine zag ?_
    rw [X_30_]
    exact ⟨_,rfl,by simp [zac,zaa,hq0,q_33,h_34],NoBox.restrict (by intro k hk hb;simp at hk hb;simp [hk,hb,hq0,q_33,h_34,hn_32 k (by simp [hk,hb])])⟩
  ·intro out hX
   rw [X_30_] at hX
   obtain ⟨σ_49,rfl,q_51,hn_50⟩:=hX
   obtain ⟨y_52,h_53,hp⟩:=zab hp
   have c_54:=C117_eq h_53
   simp at c_54
   cases hp
   simp [Goal,FnEndD,retR,rsrc,RSrc.val,nodupR,nodup,tupPart,hq0,q_51,c_54]
   rw [QV_]
   exact ⟨by simp [hq0,q_51,c_54],zgu _ _,zgw (L':=[(0,0),(1,4),(1,5)]) (by intro k hk;simp at hk;simp [hk,hq0,q_51,c_54,hn_50 k (by simp [hk])]) (by simp)⟩
theorem px79:PX Tryz.prog 79 C79:=px_of (g:=g79) (zhr [(117,C117)] rfl ⟨pc117,trivial⟩ [] rfl trivial [] rfl trivial [(41,C41),(116,C116)] rfl ⟨px41,px116,trivial⟩) (ent Tryz.func79) fun x t y h=>by
 obtain ⟨m,h1,h2,_,h3⟩:=w79 (mem:=upd mem0 (0,0) (some (bxT t))) (Tight.upd (zan _) (by simp) (by simp)) (by simp [upd,bxT]) (zjc _ _) h
 exact ⟨m,h1,h2,h3⟩

def C36:List C→List AV→Option (AV × List C):=specXS (T:=TL1Cur) (X:=Unit) (R:=((List TStructure))) fun x t=>zec t
theorem C36_eq {c} {y} (h:zec c=some y):C36 (bxT c) []=some ((Res.res y.1).toS,bxT y.2):=specXS_eq (T:=TL1Cur) (X:=Unit) (R:=((List TStructure))) (F:=fun x t=>zec t ) (x:=(())) h
def g36:Cfg:={ P:=Tryz.prog,take:=[(36,20)],keep:=[((36,4),{ hd:=[0,3,4,5],bx:=[],ex:=[3],rt:=[2] })],gho:=[((36,2000007),[.share 2])],ctx:=[(29,C29),(78,C78)],pctx:=[(41,C41),(79,C79)] }
@[simp] theorem g36_s:type_of% (cfg_s (g:=g36) rfl):=cfg_s rfl
theorem g36_x41:PxOK g36 41 C41:=⟨rfl,rfl,Tryz.f41,Tryz.f41.body.getD .skip,Tryz.func41,by kernel_rfl⟩
theorem g36_x79:PxOK g36 79 C79:=⟨rfl,rfl,Tryz.f79,Tryz.f79.body.getD .skip,Tryz.func79,by kernel_rfl⟩
theorem w36 {c} {mem:Mem} (hT:Tight 0 mem) (hq0:mem (0,0)=some [cL .shr c.b,cI c.i,cI c.h]) (hn0:NoBox [(0,0)] mem) {y} (hp:zec c=some y):∃ m,callo g36 0 36 [.one (.ptr (0,0) 0)] mem=some ((Res.res y.1).toS,m)∧(m (0,0)=some [cL .shr y.2.b,cI y.2.i,cI y.2.h]∧Tight 0 m∧NoBox [(0,0)] m):=by
 refine stD [.tmp 2] Tryz.func36 fun QV QV_=>?_
 unfold zec at hp
 obtain ⟨y_1,h_2,hp⟩:=zab hp
 simp [Tryz.f36,hq0]
 refine zbt (0,0) (zpa h_2) g36_x41 (by simp [hq0]) (by simp) (by simp [hq0]) (.inr (by decide)) ?_
 try simp [hq0]
 obtain ⟨r_19,h_20,hp⟩:=zab hp
 obtain ⟨I_5,I_5_⟩:=exV fun (s_3:(List TStructure) × Int × (List U8) × Int × Int) (σ:St)=>(σ.env 0=uP (0,0)∧σ.env 3=uL .own s_3.1∧σ.env 4=uI (addI 1 y_1.1)∧σ.env 5=uI s_3.2.1∧σ.mem (0,0)=some [cL .shr s_3.2.2.1,cI s_3.2.2.2.1,cI s_3.2.2.2.2])∧NoBox [(0,0)] σ.mem
 obtain ⟨X_6,X_6_⟩:=exV fun (r_19:(List TStructure) × (List U8) × Int × Int) (out:Out)=>∃ σ:St,out=.exit 0 σ∧(σ.env 3=uL .own r_19.1∧σ.mem (0,0)=some [cL .shr r_19.2.1,cI r_19.2.2.1,cI r_19.2.2.2])∧NoBox [(0,0)] σ.mem
 refine loopP ({ hd:=[0,3,4,5],bx:=[],ex:=[3],rt:=[2] }) I_5 X_6 h_20 (by exact rfl) ?_ ?_ ?_
 ·rw [I_5_]
  exact ⟨by simp [zac,zaa,hq0],NoBox.restrict (by intro k hk hb;simp at hk hb;simp [hk,hb,hq0,hn0 k (by simp [hk,hb])])⟩
 ·intro s_3 σ_7 a_4 hI hp
  rw [I_5_] at hI
  obtain ⟨q_9,hn_8⟩:=hI
  try simp [hq0,q_9]
  rcases zad hp with ⟨h_10,hp⟩|⟨h_10,hp⟩
  ·try simp at h_10
   obtain ⟨y_11,h_12,hp⟩:=zab hp
   try simp [hq0,q_9,h_10]
   refine zbt (0,0) (C79_eq h_12) g36_x79 (by simp [hq0,q_9,h_10]) (by simp) (by simp [hq0,q_9,h_10]) (.inr (by decide)) ?_
   obtain ⟨y_13,h_14,hp⟩:=zab hp
   have c_15:=C29_eq h_14
   simp at c_15
   obtain ⟨y_16,h_17,hp⟩:=zab hp
   have c_18:=C78_eq h_17
   simp at c_18
   cases hp
   try simp [hq0,q_9,h_10,c_15,c_18]
   refine zae ?_
   rw [I_5_]
   exact ⟨by simp [zac,zaa,hq0,q_9,h_10,c_15,c_18],NoBox.restrict (by intro k hk hb;simp at hk hb;simp [hk,hb,hq0,q_9,h_10,c_15,c_18,hn_8 k (by simp [hk,hb])])⟩
  ·try simp at h_10
   cases hp
   try simp [hq0,q_9,h_10]
   refine zag ?_
   rw [X_6_]
   exact ⟨_,rfl,by simp [zac,zaa,hq0,q_9,h_10],NoBox.restrict (by intro k hk hb;simp at hk hb;simp [hk,hb,hq0,q_9,h_10,hn_8 k (by simp [hk,hb])])⟩
 ·intro out hX
  rw [X_6_] at hX
  obtain ⟨σ_21,rfl,q_23,hn_22⟩:=hX
  cases hp
  simp [Goal,FnEndD,retR,rsrc,RSrc.val,nodupR,nodup,tupPart,hq0,q_23]
  rw [QV_]
  exact ⟨by simp [hq0,q_23],zgu _ _,zgw (L':=[(0,0)]) (by intro k hk;simp at hk;simp [hk,hq0,q_23,hn_22 k (by simp [hk])]) (by simp)⟩
theorem px36:PX Tryz.prog 36 C36:=px_ofS (g:=g36) (zhr [(29,C29),(78,C78)] rfl ⟨pc29,pc78,trivial⟩ [] rfl trivial [] rfl trivial [(41,C41),(79,C79)] rfl ⟨px41,px79,trivial⟩) (ent Tryz.func36) fun x t y h=>by
 obtain ⟨m,h1,h2,_,h3⟩:=w36 (mem:=upd mem0 (0,0) (some (bxT t))) (Tight.upd (zan _) (by simp) (by simp)) (by simp [upd,bxT]) (zjc _ _) h
 exact ⟨m,h1,h2,h3⟩

abbrev G37 (g:Cfg):Prop:=Has Tryz.prog g 37 Tryz.f37 [] [] [] []
theorem wI37 {g:Cfg} (G:G37 g) (x_41:PxOK g 41 C41) {d:Nat} {mem:Mem} (hT:Tight d mem) {K_0:Key} {c:TL1Cur} {list:(List Int)} (hk_0:K_0.1≤d) (hb_0:mem K_0=some [cL .shr c.b,cI c.i,cI c.h]) {m_1:Md} (hm_1:LentM m_1) {y} (hp:zfc c list=some y):callo g d 37 [.one (.ptr K_0 0),av m_1 list] mem=some (Res.res y.1,upd mem K_0 (some (bxT y.2))):=by
 have gP:=G.P;have gt:=G.tk;have gr:=G.ro;have gg:=G.gh
 have nx_41:=x_41.1
 have nk_0:∀ t,(K_0=(d+1,t))=False:=fun t=>by simp;intro h;rw [h] at hk_0;simp at hk_0;omega
 have hT2:memKill (fun k=>decide (d < k.1)) mem=mem:=hT
 refine start_px (Tryz.f37.body.getD .skip) [.tmp 4] G Tryz.func37 (by kernel_rfl) (by simp [Tryz.ntmps37]) rfl ?_
 unfold zfc at hp
 obtain ⟨y_1,h_2,hp⟩:=zab hp
 simp [Tryz.f37,gP,gt,gr,gg,nx_41,hb_0,nk_0,hm_1.copy,hm_1.elem]
 refine zbt K_0 (zpa h_2) x_41 (by simp [gP,gt,gr,gg,nx_41,hb_0,nk_0,hm_1.copy,hm_1.elem]) (by simp) (by simp [gP,gt,gr,gg,nx_41,hb_0,nk_0,hm_1.copy,hm_1.elem]) (.inr (.inl (by omega))) ?_
 obtain ⟨e_3,h_4,hp⟩:=zab hp
 have b_5:=at_lo h_4
 have b_6:=at_hi h_4
 try simp at b_5 b_6
 have c_7:=seg_at' h_4 0 1 (by decide) (ds:=[.sc (.int .i64 e_3)]) rfl
 try simp at c_7
 cases hp
 simp [Goal,FnEndI,retR,rsrc,RSrc.val,nodupR,nodup,tupPart,gP,gt,gr,gg,nx_41,hb_0,nk_0,hm_1.copy,hm_1.elem,b_5,b_6,c_7]
 exact memKill_px (x:=y_1.2) hT hk_0

def C6:List AV→Option AV:=specPS (X:=(List U8) × Unit) fun x=>zbh x.1
theorem C6_eq {code} {y} (h:zbh code=some y):C6 [av .shr code]=some ((Res.res y).toS):=znh (x:=(code,())) h
def g6:Cfg:={ P:=Tryz.prog,take:=[],keep:=[],gho:=[],ctx:=[],give:=[(6,8)],bctx:=[(35,C35)],pctx:=[(36,C36),(41,C41)] }
@[simp] theorem g6_s:type_of% (cfg_s (g:=g6) rfl):=cfg_s rfl
theorem g6_x36:PxOK g6 36 C36:=⟨rfl,rfl,Tryz.f36,Tryz.f36.body.getD .skip,Tryz.func36,by kernel_rfl⟩
theorem g6_x41:PxOK g6 41 C41:=⟨rfl,rfl,Tryz.f41,Tryz.f41.body.getD .skip,Tryz.func41,by kernel_rfl⟩
theorem w6 {code} {y} (hp:zbh code=some y):∃ m,callo g6 0 6 [av .shr code] mem0=some ((Res.res y).toS,m):=by
 have G_37:G37 g6:=⟨rfl,by kernel_rfl,rfl,fun t=>by simp,noAway (fun t=>by simp) (by simp) (fun t=>by simp),by simp [lookN],fun i=>by simp [lookK],by simp [g6,lookK],by simp⟩
 refine st0 [.tmp 2,.tmp 3,.tmp 4] Tryz.func6 ?_
 unfold zbh at hp
 obtain ⟨y_1,h_2,hp⟩:=zab hp
 simp [Tryz.f6]
 refine zqz (1,5000008) (C35_eq h_2) (by rfl) (by rfl) (by simp) (by simp) (by rfl) (by simp [mem0]) ?_
 obtain ⟨y_3,h_4,hp⟩:=zab hp
 try simp
 refine zbt (1,5000008) (C36_eq h_4) g6_x36 (by simp) (by simp) (by simp) (.inr (by decide)) ?_
 obtain ⟨y_5,h_6,hp⟩:=zab hp
 try simp
 refine zpq [.one (.ptr (1,5000008) 0),av .bor [2,2,2,3]] (by simp) (wI37 G_37 g6_x41 (by repeat (first | exact zan _ | exact hT.up | exact hT | (simp only [true_and];done) | refine Tight.upd ?_ (by simp) (by simp) | refine Tight.killB ?_ | refine zar ?_)) (c:=y_3.2) (by decide) (by simp) (.inr rfl) h_6) ?_
 obtain ⟨y_7,h_8,hp⟩:=zab hp
 try simp
 refine zpq [.one (.ptr (1,5000008) 0),av .bor [0,1,2,2,4]] (by simp) (wI37 G_37 g6_x41 (by repeat (first | exact zan _ | exact hT.up | exact hT | (simp only [true_and];done) | refine Tight.upd ?_ (by simp) (by simp) | refine Tight.killB ?_ | refine zar ?_)) (c:=y_5.2) (by decide) (by simp) (.inr rfl) h_8) ?_
 cases hp
 simp [Goal,FnEnd,retR,rsrc,RSrc.val,nodupR,nodup,tupPart]
theorem pc6:PC Tryz.prog 6 C6:=pc_ofS (g:=g6) (zhr [] rfl trivial [] rfl trivial [(35,C35)] rfl ⟨bc35,trivial⟩ [(36,C36),(41,C41)] rfl ⟨px36,px41,trivial⟩) (ent Tryz.func6) fun x y h=>w6 h

def C90:List AV→Option AV:=specP (X:=Int × Int × Int × Unit) fun x=>zcs x.1 x.2.1 x.2.2.1
theorem zoz {n_ low high} {y} (h:zcs n_ low high=some y):C90 [av .shr n_,av .shr low,av .shr high]=some (Res.res y):=zah (x:=(n_,low,high,())) h
def g90:Cfg:={ P:=Tryz.prog,take:=[],keep:=[],gho:=[],ctx:=[] }
@[simp] theorem g90_s:type_of% (cfg_s (g:=g90) rfl):=cfg_s rfl
theorem w90 {n_ low high} {y} (hp:zcs n_ low high=some y):∃ m,callo g90 0 90 [av .shr n_,av .shr low,av .shr high] mem0=some (Res.res y,m):=by
 refine st0 [.tmp 6] Tryz.func90 ?_
 unfold zcs at hp
 simp [Tryz.f90]
 rcases zad hp with ⟨h_1,hp⟩|⟨h_1,hp⟩
 ·try simp at h_1
  cases hp
  simp [Goal,FnEnd,h_1]
 ·try simp at h_1
  cases hp
  simp [Goal,FnEnd,h_1]
theorem pc90:PC Tryz.prog 90 C90:=pc_of (g:=g90) (zai [] rfl trivial) (ent Tryz.func90) fun x y h=>w90 h

def C140:List AV→Option AV:=specP (X:=THeap × Int × Unit) fun x=>zbe x.1 x.2.1
theorem C140_eq {h_ n_} {y} (h:zbe h_ n_=some y):C140 [av .shr h_,av .shr n_]=some (Res.res y):=zah (x:=(h_,n_,())) h
def g140:Cfg:={ P:=Tryz.prog,take:=[],keep:=[],gho:=[],ctx:=[(90,C90)] }
@[simp] theorem g140_s:type_of% (cfg_s (g:=g140) rfl):=cfg_s rfl
theorem w140 {h_ n_} {y} (hp:zbe h_ n_=some y):∃ m,callo g140 0 140 [av .shr h_,av .shr n_] mem0=some (Res.res y,m):=by
 refine st0 [.tmp 4] Tryz.func140 ?_
 unfold zbe at hp
 obtain ⟨y_1,h_2,hp⟩:=zab hp
 have c_3:=zoz h_2
 simp at c_3
 cases hp
 simp [Tryz.f140,Goal,FnEnd,c_3]
theorem pc140:PC Tryz.prog 140 C140:=pc_of (g:=g140) (zai _ g140_s.2.1 ⟨pc90,trivial⟩) (ent Tryz.func140) fun x y h=>w140 h

abbrev G150 (g:Cfg):Prop:=Has Tryz.prog g 150 Tryz.f150 [] [(2,{ hd:=[0,1,7,8],bx:=[],ex:=[],rt:=[4] })] [] []
theorem wI150 {g:Cfg} (G:G150 g) {d:Nat} {mem:Mem} (hT:Tight d mem)  {s:(List Int)} {f_:(Int→Option (Bool))} {m_0:Md} (hm_0:LentM m_0) {fk_f_:Nat} {caps_f_:List (Key × Nat)} (hl_f_:∀ c∈caps_f_,c.1.1≤d) (hc_f_:Clo g d mem fk_f_ caps_f_ fun x:Int × Unit=>f_ x.1) {y} (hp:zem s f_=some y):callo g d 150 [av m_0 s,.one (.fn fk_f_ caps_f_)] mem=some (Res.res y,mem):=by
 have gP:=G.P;have gt:=G.tk;have gr:=G.ro;have gg:=G.gh
 have k_2:=G.kp (2,{ hd:=[0,1,7,8],bx:=[],ex:=[],rt:=[4] }) (by simp)
 have hT2:memKill (fun k=>decide (d < k.1)) mem=mem:=hT
 refine zgr (Tryz.f150.body.getD .skip) [.tmp 4] G Tryz.func150 (by kernel_rfl) (by simp [Tryz.ntmps150]) rfl ?_
 unfold zem at hp
 simp [Tryz.f150,gP,gt,gr,gg,hm_0.copy,hm_0.elem]
 obtain ⟨r_18,h_19,hp⟩:=zab hp
 obtain ⟨I_3,I_3_⟩:=exV fun (s_1:Int) (σ:St)=>(σ.env 0=uL m_0 s∧σ.env 7=uI (s.length:Int)∧σ.env 8=uI s_1)∧σ.env 1=.one (.fn fk_f_ caps_f_)∧σ.mem=mem
 obtain ⟨X_4,X_4_⟩:=exV fun (r_18:(Int) ⊕ (Unit)) (out:Out)=>Sum.elim (fun r_18=>∃ σ:St,out=.ret σ∧σ.env 4=uI r_18∧σ.mem=mem) (fun r_18=>∃ σ:St,out=.exit 0 σ∧σ.mem=mem) r_18
 refine loopP ({ hd:=[0,1,7,8],bx:=[],ex:=[],rt:=[4] }) I_3 X_4 h_19 (by exact k_2) ?_ ?_ ?_
 ·rw [I_3_]
  exact ⟨by simp [zac,zaa,gP,gt,gr,gg,hm_0.copy,hm_0.elem],by simp [zac,gP,gt,gr,gg,hm_0.copy,hm_0.elem] <;> first | (intro x x1 x2 hx;have h0:=hl_f_ _ hx;simp at h0;omega) | (intro x hx;have h0:=hl_f_ _ hx;simp at h0;omega),by simp [zaa,gP,gt,gr,gg,hm_0.copy,hm_0.elem]⟩
 ·intro s_1 σ_5 a_2 hI hp
  rw [I_3_] at hI
  obtain ⟨q_8,q_6,q_7⟩:=hI
  try simp [gP,gt,gr,gg,hm_0.copy,hm_0.elem,q_8,q_6,q_7]
  rcases zad hp with ⟨h_9,hp⟩|⟨h_9,hp⟩
  ·try simp at h_9
   obtain ⟨e_10,h_11,hp⟩:=zab hp
   have b_12:=at_lo h_11
   have b_13:=at_hi h_11
   try simp at b_12 b_13
   have c_14:=seg_at' h_11 0 1 (by decide) (ds:=[.sc (.int .i64 e_10)]) rfl
   try simp at c_14
   obtain ⟨y_15,h_16,hp⟩:=zab hp
   try simp [gP,gt,gr,gg,hm_0.copy,hm_0.elem,q_8,q_6,q_7,h_9,b_12,b_13,c_14]
   refine zez ([av .shr e_10] ++ capsAV caps_f_) (Res.res y_15) (by simp [capsAV,gP,gt,gr,gg,hm_0.copy,hm_0.elem,q_8,q_6,q_7,h_9]) (hc_f_ _ _ _ (e_10,()) _ (Nat.le_succ d) (fun k hk=>by first | rfl | rw [q_7]) (by repeat (first | exact zan _ | exact hT.up | exact hT | (simp only [q_8,q_6,q_7];done) | refine Tight.upd ?_ (by simp) (by simp) | refine Tight.killB ?_ | refine zar ?_)) ⟨_,_,(.inl rfl),rfl,rfl⟩ h_16) ?_
   try simp [gP,gt,gr,gg,hm_0.copy,hm_0.elem,q_8,q_6,q_7,h_9]
   rcases zad hp with ⟨h_17,hp⟩|⟨h_17,hp⟩
   ·try simp at h_17
    cases hp
    try simp [gP,gt,gr,gg,hm_0.copy,hm_0.elem,q_8,q_6,q_7,h_9,h_17]
    refine zal ?_
    rw [X_4_]
    exact ⟨_,rfl,by simp [zac,zaa,gP,gt,gr,gg,hm_0.copy,hm_0.elem,q_8,q_6,q_7,h_9,h_17],by simp [zaa,gP,gt,gr,gg,hm_0.copy,hm_0.elem,q_8,q_6,q_7,h_9,h_17]⟩
   ·try simp at h_17
    cases hp
    try simp [gP,gt,gr,gg,hm_0.copy,hm_0.elem,q_8,q_6,q_7,h_9,h_17]
    refine zae ?_
    rw [I_3_]
    exact ⟨by simp [zac,zaa,gP,gt,gr,gg,hm_0.copy,hm_0.elem,q_8,q_6,q_7,h_9,h_17],by simp [zac,gP,gt,gr,gg,hm_0.copy,hm_0.elem,q_8,q_6,q_7,h_9,h_17] <;> first | (intro x x1 x2 hx;have h0:=hl_f_ _ hx;simp at h0;omega) | (intro x hx;have h0:=hl_f_ _ hx;simp at h0;omega),by simp [zaa,gP,gt,gr,gg,hm_0.copy,hm_0.elem,q_8,q_6,q_7,h_9,h_17]⟩
  ·try simp at h_9
   cases hp
   try simp [gP,gt,gr,gg,hm_0.copy,hm_0.elem,q_8,q_6,q_7,h_9]
   refine zag ?_
   rw [X_4_]
   exact ⟨_,rfl,by simp [zaa,gP,gt,gr,gg,hm_0.copy,hm_0.elem,q_8,q_6,q_7,h_9]⟩
 ·intro out hX
  rw [X_4_] at hX
  rcases r_18 with r_18 | r_18
  ·simp only [Sum.elim_inl,Sum.elim_inr] at hX hp
   obtain ⟨σ_20,rfl,q_22,q_21⟩:=hX
   cases hp
   simp [Goal,FnEndI,zax,gP,gt,gr,gg,hm_0.copy,hm_0.elem,q_22,q_21,hT2]
  ·simp only [Sum.elim_inl,Sum.elim_inr] at hX hp
   obtain ⟨σ_23,rfl,q_24⟩:=hX
   cases hp
   simp [Goal,FnEndI,zax,gP,gt,gr,gg,hm_0.copy,hm_0.elem,q_24,hT2]

abbrev G124 (g:Cfg):Prop:=Has Tryz.prog g 124 Tryz.f124 [] [] [] []
theorem wI124 {g:Cfg} (G:G124 g) (G_150:G150 g) {d:Nat} {mem:Mem} (hT:Tight d mem)  {s:(List Int)} {f_:(Int→Option (Bool))} {m_0:Md} (hm_0:LentM m_0) {fk_f_:Nat} {caps_f_:List (Key × Nat)} (hl_f_:∀ c∈caps_f_,c.1.1≤d) (hc_f_:Clo g d mem fk_f_ caps_f_ fun x:Int × Unit=>f_ x.1) {y} (hp:zbm s f_=some y):callo g d 124 [av m_0 s,.one (.fn fk_f_ caps_f_)] mem=some (Res.res y,mem):=by
 have gP:=G.P;have gt:=G.tk;have gr:=G.ro;have gg:=G.gh
 have i_150:=G_150.no
 have hT2:memKill (fun k=>decide (d < k.1)) mem=mem:=hT
 refine zgr (Tryz.f124.body.getD .skip) [.tmp 4] G Tryz.func124 (by kernel_rfl) (by simp [Tryz.ntmps124]) rfl ?_
 unfold zbm at hp
 obtain ⟨y_1,h_2,hp⟩:=zab hp
 simp [Tryz.f124,gP,gt,gr,gg,i_150,hm_0.copy,hm_0.elem]
 refine zez [av m_0 s,.one (.fn fk_f_ caps_f_)] (Res.res y_1) (by simp [gP,gt,gr,gg,i_150,hm_0.copy,hm_0.elem]) (wI150 G_150 (by repeat (first | exact zan _ | exact hT.up | exact hT | (simp only [true_and];done) | refine Tight.upd ?_ (by simp) (by simp) | refine Tight.killB ?_ | refine zar ?_)) hm_0 (fun c hc=>Nat.le_succ_of_le (hl_f_ c hc)) (hc_f_.mono (Nat.le_succ d) (fun k hk=>rfl)) h_2) ?_
 cases hp
 simp [Goal,FnEndI,zax,gP,gt,gr,gg,i_150,hm_0.copy,hm_0.elem,hT2]

abbrev G139 (g:Cfg):Prop:=Has Tryz.prog g 139 Tryz.f139 [] [] [(140,C140)] []
theorem wI139 {g:Cfg} (G:G139 g) {d:Nat} {mem:Mem} (hT:Tight d mem) {K_1:Key} {n_:Int} {c0:THeap} {mk_1:Md} (hk_1:K_1.1≤d) (hb_1:mem K_1=some [cL mk_1 c0.vars,cL mk_1 c0.next]) {y} (hp:zbq n_ c0=some y):callo g d 139 [av .shr n_,.one (.ptr K_1 0)] mem=some (Res.res y,mem):=by
 have gP:=G.P;have gt:=G.tk;have gr:=G.ro;have gg:=G.gh
 have c_140:=G.cs (140,C140) (by simp)
 have hT2:memKill (fun k=>decide (d < k.1)) mem=mem:=hT
 have nk_1:∀ t,(K_1=(d+1,t))=False:=fun t=>by simp;intro h;rw [h] at hk_1;simp at hk_1;omega
 refine zgr (Tryz.f139.body.getD .skip) [.tmp 3] G Tryz.func139 (by kernel_rfl) (by simp [Tryz.ntmps139]) rfl ?_
 unfold zbq at hp
 simp [Tryz.f139,gP,gt,gr,gg,hb_1,nk_1]
 rcases zad hp with ⟨h_1,hp⟩|⟨h_1,hp⟩
 ·try simp at h_1
  obtain ⟨y_2,h_3,hp⟩:=zab hp
  have c_4:=C140_eq h_3
  simp at c_4
  cases hp
  simp [Goal,FnEndI,zax,gP,gt,gr,gg,c_140,hb_1,nk_1,h_1,c_4,hT2]
 ·try simp at h_1
  cases hp
  simp [Goal,FnEndI,zax,gP,gt,gr,gg,c_140,hb_1,nk_1,h_1,hT2]

def C106:List AV→Option AV:=specP (X:=THeap × Unit) fun x=>zbs x.1
theorem C106_eq {h_} {y} (h:zbs h_=some y):C106 [av .shr h_]=some (Res.res y):=zah (x:=(h_,())) h
def g106:Cfg:={ P:=Tryz.prog,take:=[],keep:=[((150,2),{ hd:=[0,1,7,8],bx:=[],ex:=[],rt:=[4] })],gho:=[],ctx:=[(138,C138),(140,C140)] }
@[simp] theorem g106_s:type_of% (cfg_s (g:=g106) rfl):=cfg_s rfl
theorem w106 {h_} {y} (hp:zbs h_=some y):∃ m,callo g106 0 106 [av .shr h_] mem0=some (Res.res y,m):=by
 have G_124:G124 g106:=⟨rfl,by kernel_rfl,rfl,fun t=>by simp,noAway (fun t=>by simp) (by simp) (fun t=>by simp),by simp [lookN],fun i=>by simp [lookK],by simp [g106,lookK],by simp⟩
 have G_150:G150 g106:=⟨rfl,by kernel_rfl,rfl,fun t=>by simp,noAway (fun t=>by simp) (by simp) (fun t=>by simp),by simp [lookN],fun i=>by simp [lookK],by simp [g106,lookK],by simp⟩
 have G_139:G139 g106:=⟨rfl,by kernel_rfl,rfl,fun t=>by simp,noAway (fun t=>by simp) (by simp) (fun t=>by simp),by simp [lookN],fun i=>by simp [lookK],by simp [g106,lookK],by simp⟩
 refine st0 [.tmp 2] Tryz.func106 ?_
 unfold zbs at hp
 obtain ⟨y_1,h_2,hp⟩:=zab hp
 have c_3:=C138_eq h_2
 simp at c_3
 obtain ⟨y_4,h_5,hp⟩:=zab hp
 simp [Tryz.f106,c_3]
 refine zez [av .bor y_1,.one (.fn 139 [((1,1),0)])] (Res.res y_4) (by simp) (wI124 G_124 G_150 (by repeat (first | exact zan _ | exact hT.up | exact hT | (simp only [true_and];done) | refine Tight.upd ?_ (by simp) (by simp) | refine Tight.killB ?_ | refine zar ?_)) (.inr rfl) (by simp) (clo1 (p:=fun x0=>zbq x0 h_) fun d2 mem2 m0 x0 r2 hd2 ha2 hT2 hm0 hr2=>wI139 (mk_1:=.shr) G_139 hT2 (show 1≤d2 from hd2) ((ha2 _ (Nat.le_refl _)).trans (by simp [c_3])) hr2) h_5) ?_
 cases hp
 simp [Goal,FnEnd]
theorem pc106:PC Tryz.prog 106 C106:=pc_of (g:=g106) (zai _ g106_s.2.1 ⟨pc138,pc140,trivial⟩) (ent Tryz.func106) fun x y h=>w106 h

def C108:List AV→Option AV:=specP (X:=(List Int) × Int × Unit) fun x=>zff x.1 x.2.1
theorem C108_eq {list n_} {y} (h:zff list n_=some y):C108 [av .shr list,av .shr n_]=some (Res.res y):=zah (x:=(list,n_,())) h
def g108:Cfg:={ P:=Tryz.prog,take:=[(108,19),(108,24)],keep:=[((108,3),{ hd:=[1,5,9,10,11],bx:=[],ex:=[5],rt:=[4] })],gho:=[],ctx:=[] }
@[simp] theorem g108_s:type_of% (cfg_s (g:=g108) rfl):=cfg_s rfl
theorem w108 {list n_} {y} (hp:zff list n_=some y):∃ m,callo g108 0 108 [av .shr list,av .shr n_] mem0=some (Res.res y,m):=by
 refine st0 [.tmp 4] Tryz.func108 ?_
 unfold zff at hp
 simp [Tryz.f108]
 obtain ⟨r_17,h_18,hp⟩:=zab hp
 obtain ⟨I_3,I_3_⟩:=exV fun (s_1:(List Int) × Int) (σ:St)=>(σ.env 1=uI n_∧σ.env 5=uL .own s_1.1∧σ.env 9=uL .shr list∧σ.env 10=uI (list.length:Int)∧σ.env 11=uI s_1.2)∧σ.mem=mem0
 obtain ⟨X_4,X_4_⟩:=exV fun (r_17:(List Int)) (out:Out)=>∃ σ:St,out=.exit 0 σ∧σ.env 5=uL .own r_17∧σ.mem=mem0
 refine loopP ({ hd:=[1,5,9,10,11],bx:=[],ex:=[5],rt:=[4] }) I_3 X_4 h_18 (by exact rfl) ?_ ?_ ?_
 ·rw [I_3_]
  exact ⟨by simp [zac,zaa],by simp [zaa]⟩
 ·intro s_1 σ_5 a_2 hI hp
  rw [I_3_] at hI
  obtain ⟨q_7,q_6⟩:=hI
  try simp [q_7,q_6]
  rcases zad hp with ⟨h_8,hp⟩|⟨h_8,hp⟩
  ·try simp at h_8
   obtain ⟨e_9,h_10,hp⟩:=zab hp
   have b_11:=at_lo h_10
   have b_12:=at_hi h_10
   try simp at b_11 b_12
   have c_13:=seg_at' h_10 0 1 (by decide) (ds:=[.sc (.int .i64 e_9)]) rfl
   try simp at c_13
   try simp [q_7,q_6,h_8,b_11,b_12,c_13]
   rcases zad hp with ⟨h_14,hp⟩|⟨h_14,hp⟩
   ·try simp at h_14
    obtain ⟨_,h_15,hp⟩:=zab hp
    have b_16:=zap h_15
    try simp at b_16
    cases hp
    try simp [q_7,q_6,h_8,h_14,b_16]
    refine zae ?_
    rw [I_3_]
    exact ⟨by simp [zac,zaa,q_7,q_6,h_8,h_14,b_16],by simp [zaa,q_7,q_6,h_8,h_14,b_16]⟩
   ·try simp at h_14
    cases hp
    try simp [q_7,q_6,h_8,h_14]
    refine zae ?_
    rw [I_3_]
    exact ⟨by simp [zac,zaa,q_7,q_6,h_8,h_14],by simp [zaa,q_7,q_6,h_8,h_14]⟩
  ·try simp at h_8
   cases hp
   try simp [q_7,q_6,h_8]
   refine zag ?_
   rw [X_4_]
   exact ⟨_,rfl,by simp [zac,zaa,q_7,q_6,h_8],by simp [zaa,q_7,q_6,h_8]⟩
 ·intro out hX
  rw [X_4_] at hX
  obtain ⟨σ_19,rfl,q_21,q_20⟩:=hX
  cases hp
  simp [Goal,FnEnd,q_21,q_20]
theorem pc108:PC Tryz.prog 108 C108:=pc_of (g:=g108) (zai [] rfl trivial) (ent Tryz.func108) fun x y h=>w108 h

def C107:List AV→Option AV:=specP (X:=Bool × Unit) fun x=>zdy x.1
theorem zro {b_} {y} (h:zdy b_=some y):C107 [av .shr b_]=some (Res.res y):=zah (x:=(b_,())) h
def g107:Cfg:={ P:=Tryz.prog,take:=[],keep:=[],gho:=[],ctx:=[] }
@[simp] theorem g107_s:type_of% (cfg_s (g:=g107) rfl):=cfg_s rfl
theorem w107 {b_} {y} (hp:zdy b_=some y):∃ m,callo g107 0 107 [av .shr b_] mem0=some (Res.res y,m):=by
 refine st0 [.tmp 2] Tryz.func107 ?_
 unfold zdy at hp
 simp [Tryz.f107]
 rcases zad hp with ⟨h_1,hp⟩|⟨h_1,hp⟩
 ·try simp at h_1
  cases hp
  simp [Goal,FnEnd,h_1]
 ·try simp at h_1
  cases hp
  simp [Goal,FnEnd,h_1]
theorem pc107:PC Tryz.prog 107 C107:=pc_of (g:=g107) (zai [] rfl trivial) (ent Tryz.func107) fun x y h=>w107 h

def C141:List AV→Option AV:=specP (X:=(List Int) × Int × Unit) fun x=>zdg x.1 x.2.1
theorem C141_eq {s v} {y} (h:zdg s v=some y):C141 [av .shr s,av .shr v]=some (Res.res y):=zah (x:=(s,v,())) h
def g141:Cfg:={ P:=Tryz.prog,take:=[],keep:=[((141,2),{ hd:=[0,1,7,8],bx:=[],ex:=[],rt:=[4] })],gho:=[],ctx:=[] }
@[simp] theorem g141_s:type_of% (cfg_s (g:=g141) rfl):=cfg_s rfl
theorem w141 {s v} {y} (hp:zdg s v=some y):∃ m,callo g141 0 141 [av .shr s,av .shr v] mem0=some (Res.res y,m):=by
 refine st0 [.tmp 4] Tryz.func141 ?_
 unfold zdg at hp
 simp [Tryz.f141]
 obtain ⟨r_15,h_16,hp⟩:=zab hp
 obtain ⟨I_3,I_3_⟩:=exV fun (s_1:Int) (σ:St)=>(σ.env 0=uL .shr s∧σ.env 1=uI v∧σ.env 7=uI (s.length:Int)∧σ.env 8=uI s_1)∧σ.mem=mem0
 obtain ⟨X_4,X_4_⟩:=exV fun (r_15:(Int) ⊕ (Unit)) (out:Out)=>Sum.elim (fun r_15=>∃ σ:St,out=.ret σ∧σ.env 4=uI r_15∧σ.mem=mem0) (fun r_15=>∃ σ:St,out=.exit 0 σ∧σ.mem=mem0) r_15
 refine loopP ({ hd:=[0,1,7,8],bx:=[],ex:=[],rt:=[4] }) I_3 X_4 h_16 (by exact rfl) ?_ ?_ ?_
 ·rw [I_3_]
  exact ⟨by simp [zac,zaa],by simp [zaa]⟩
 ·intro s_1 σ_5 a_2 hI hp
  rw [I_3_] at hI
  obtain ⟨q_7,q_6⟩:=hI
  try simp [q_7,q_6]
  rcases zad hp with ⟨h_8,hp⟩|⟨h_8,hp⟩
  ·try simp at h_8
   obtain ⟨e_9,h_10,hp⟩:=zab hp
   have b_11:=at_lo h_10
   have b_12:=at_hi h_10
   try simp at b_11 b_12
   have c_13:=seg_at' h_10 0 1 (by decide) (ds:=[.sc (.int .i64 e_9)]) rfl
   try simp at c_13
   try simp [q_7,q_6,h_8,b_11,b_12,c_13]
   rcases zad hp with ⟨h_14,hp⟩|⟨h_14,hp⟩
   ·try simp at h_14
    cases hp
    try simp [q_7,q_6,h_8,h_14]
    refine zal ?_
    rw [X_4_]
    exact ⟨_,rfl,by simp [zac,zaa,q_7,q_6,h_8,h_14],by simp [zaa,q_7,q_6,h_8,h_14]⟩
   ·try simp at h_14
    cases hp
    try simp [q_7,q_6,h_8,h_14]
    refine zae ?_
    rw [I_3_]
    exact ⟨by simp [zac,zaa,q_7,q_6,h_8,h_14],by simp [zaa,q_7,q_6,h_8,h_14]⟩
  ·try simp at h_8
   cases hp
   try simp [q_7,q_6,h_8]
   refine zag ?_
   rw [X_4_]
   exact ⟨_,rfl,by simp [zaa,q_7,q_6,h_8]⟩
 ·intro out hX
  rw [X_4_] at hX
  rcases r_15 with r_15 | r_15
  ·simp only [Sum.elim_inl,Sum.elim_inr] at hX hp
   obtain ⟨σ_17,rfl,q_19,q_18⟩:=hX
   cases hp
   simp [Goal,FnEnd,q_19,q_18]
  ·simp only [Sum.elim_inl,Sum.elim_inr] at hX hp
   obtain ⟨σ_20,rfl,q_21⟩:=hX
   cases hp
   simp [Goal,FnEnd,q_21]
theorem pc141:PC Tryz.prog 141 C141:=pc_of (g:=g141) (zai [] rfl trivial) (ent Tryz.func141) fun x y h=>w141 h

def C109:List AV→Option AV:=specP (X:=(List Int) × Int × Unit) fun x=>zaj x.1 x.2.1
theorem zlz {s v} {y} (h:zaj s v=some y):C109 [av .shr s,av .shr v]=some (Res.res y):=zah (x:=(s,v,())) h
def g109:Cfg:={ P:=Tryz.prog,take:=[],keep:=[],gho:=[],ctx:=[(141,C141)] }
@[simp] theorem g109_s:type_of% (cfg_s (g:=g109) rfl):=cfg_s rfl
theorem w109 {s v} {y} (hp:zaj s v=some y):∃ m,callo g109 0 109 [av .shr s,av .shr v] mem0=some (Res.res y,m):=by
 refine st0 [.tmp 4] Tryz.func109 ?_
 unfold zaj at hp
 obtain ⟨y_1,h_2,hp⟩:=zab hp
 have c_3:=C141_eq h_2
 simp at c_3
 cases hp
 simp [Tryz.f109,Goal,FnEnd,c_3]
theorem pc109:PC Tryz.prog 109 C109:=pc_of (g:=g109) (zai _ g109_s.2.1 ⟨pc141,trivial⟩) (ent Tryz.func109) fun x y h=>w109 h

def C110:List AV→Option AV:=specP (X:=THeap × Int × Unit) fun x=>zdb x.1 x.2.1
theorem C110_eq {h_ cell} {y} (h:zdb h_ cell=some y):C110 [av .shr h_,av .shr cell]=some (Res.res y):=zah (x:=(h_,cell,())) h
def g110:Cfg:={ P:=Tryz.prog,take:=[(110,27),(110,31)],keep:=[((110,3),{ hd:=[1,2,5,6],bx:=[],ex:=[5],rt:=[4] })],gho:=[],ctx:=[(109,C109),(140,C140)] }
@[simp] theorem g110_s:type_of% (cfg_s (g:=g110) rfl):=cfg_s rfl
theorem w110 {h_ cell} {y} (hp:zdb h_ cell=some y):∃ m,callo g110 0 110 [av .shr h_,av .shr cell] mem0=some (Res.res y,m):=by
 refine st0 [.tmp 4] Tryz.func110 ?_
 unfold zdb at hp
 simp [Tryz.f110]
 obtain ⟨r_40,h_41,hp⟩:=zab hp
 obtain ⟨I_3,I_3_⟩:=exV fun (s_1:(List Int) × Int) (σ:St)=>(σ.env 1=uI cell∧σ.env 2=uP (1,2)∧σ.env 5=uL .own s_1.1∧σ.env 6=uI s_1.2∧σ.mem (1,2)=some [cL .shr h_.vars,cL .shr h_.next])∧NoBox [(1,2)] σ.mem
 obtain ⟨X_4,X_4_⟩:=exV fun (r_40:((List Int)) ⊕ (Unit)) (out:Out)=>Sum.elim (fun r_40=>∃ σ:St,out=.exit 0 σ∧(σ.env 5=uL .own r_40∧σ.mem (1,2)=some [cL .shr h_.vars,cL .shr h_.next])∧NoBox [(1,2)] σ.mem) (fun r_40=>∃ σ:St,out=.ret σ∧(σ.env 4=.one (.l .own 0 [])∧σ.mem (1,2)=some [cL .shr h_.vars,cL .shr h_.next])∧NoBox [(1,2)] σ.mem) r_40
 refine loopP ({ hd:=[1,2,5,6],bx:=[],ex:=[5],rt:=[4] }) I_3 X_4 h_41 (by exact rfl) ?_ ?_ ?_
 ·rw [I_3_]
  exact ⟨by simp [zac,zaa],NoBox.restrict (by intro k hk hb;simp at hk hb;simp [hk,hb])⟩
 ·intro s_1 σ_5 a_2 hI hp
  rw [I_3_] at hI
  obtain ⟨q_7,hn_6⟩:=hI
  try simp [q_7]
  rcases zad hp with ⟨h_8,hp⟩|⟨h_8,hp⟩
  ·try simp at h_8
   obtain ⟨y_9,h_10,hp⟩:=zab hp
   have c_11:=C140_eq h_10
   simp at c_11
   try simp [q_7,h_8,c_11]
   rcases zad hp with ⟨h_12,hp⟩|⟨h_12,hp⟩
   ·try simp at h_12
    obtain ⟨y_13,h_14,hp⟩:=zab hp
    have c_15:=zlz h_14
    simp at c_15
    try simp [q_7,h_8,h_12,c_15]
    rcases zad hp with ⟨h_16,hp⟩|⟨h_16,hp⟩
    ·try simp at h_16
     cases hp
     try simp [q_7,h_8,h_12,h_16]
     refine zag ?_
     rw [X_4_]
     exact ⟨_,rfl,by simp [zac,zaa,q_7,h_8,h_12,h_16],NoBox.restrict (by intro k hk hb;simp at hk hb;simp [hk,hb,q_7,h_8,h_12,h_16,hn_6 k (by simp [hk,hb])])⟩
    ·try simp at h_16
     obtain ⟨_,h_17,hp⟩:=zab hp
     have b_18:=zap h_17
     try simp at b_18
     obtain ⟨e_19,h_20,hp⟩:=zab hp
     have b_21:=at_lo h_20
     have b_22:=at_hi h_20
     try simp at b_21 b_22
     have c_23:=seg_at' h_20 0 1 (by decide) (ds:=[.sc (.int .i64 e_19)]) rfl
     try simp at c_23
     cases hp
     try simp [q_7,h_8,h_12,h_16,b_18,b_21,b_22,c_23]
     refine zae ?_
     rw [I_3_]
     exact ⟨by simp [zac,zaa,q_7,h_8,h_12,h_16,b_18,b_21,b_22,c_23],NoBox.restrict (by intro k hk hb;simp at hk hb;simp [hk,hb,q_7,h_8,h_12,h_16,b_18,b_21,b_22,c_23,hn_6 k (by simp [hk,hb])])⟩
   ·try simp at h_12
    cases hp
    try simp [q_7,h_8,h_12]
    refine zal ?_
    rw [X_4_]
    exact ⟨_,rfl,by simp [zac,zaa,q_7,h_8,h_12],NoBox.restrict (by intro k hk hb;simp at hk hb;simp [hk,hb,q_7,h_8,h_12,hn_6 k (by simp [hk,hb])])⟩
  ·try simp at h_8
   try simp [q_7,h_8]
   rcases zad hp with ⟨h_24,hp⟩|⟨h_24,hp⟩
   ·try simp at h_24
    obtain ⟨y_25,h_26,hp⟩:=zab hp
    have c_27:=C140_eq h_26
    simp at c_27
    try simp [q_7,h_8,h_24,c_27]
    rcases zad hp with ⟨h_28,hp⟩|⟨h_28,hp⟩
    ·try simp at h_28
     obtain ⟨y_29,h_30,hp⟩:=zab hp
     have c_31:=zlz h_30
     simp at c_31
     try simp [q_7,h_8,h_24,h_28,c_31]
     rcases zad hp with ⟨h_32,hp⟩|⟨h_32,hp⟩
     ·try simp at h_32
      cases hp
      try simp [q_7,h_8,h_24,h_28,h_32]
      refine zag ?_
      rw [X_4_]
      exact ⟨_,rfl,by simp [zac,zaa,q_7,h_8,h_24,h_28,h_32],NoBox.restrict (by intro k hk hb;simp at hk hb;simp [hk,hb,q_7,h_8,h_24,h_28,h_32,hn_6 k (by simp [hk,hb])])⟩
     ·try simp at h_32
      obtain ⟨_,h_33,hp⟩:=zab hp
      have b_34:=zap h_33
      try simp at b_34
      obtain ⟨e_35,h_36,hp⟩:=zab hp
      have b_37:=at_lo h_36
      have b_38:=at_hi h_36
      try simp at b_37 b_38
      have c_39:=seg_at' h_36 0 1 (by decide) (ds:=[.sc (.int .i64 e_35)]) rfl
      try simp at c_39
      cases hp
      try simp [q_7,h_8,h_24,h_28,h_32,b_34,b_37,b_38,c_39]
      refine zae ?_
      rw [I_3_]
      exact ⟨by simp [zac,zaa,q_7,h_8,h_24,h_28,h_32,b_34,b_37,b_38,c_39],NoBox.restrict (by intro k hk hb;simp at hk hb;simp [hk,hb,q_7,h_8,h_24,h_28,h_32,b_34,b_37,b_38,c_39,hn_6 k (by simp [hk,hb])])⟩
    ·try simp at h_28
     cases hp
     try simp [q_7,h_8,h_24,h_28]
     refine zal ?_
     rw [X_4_]
     exact ⟨_,rfl,by simp [zac,zaa,q_7,h_8,h_24,h_28],NoBox.restrict (by intro k hk hb;simp at hk hb;simp [hk,hb,q_7,h_8,h_24,h_28,hn_6 k (by simp [hk,hb])])⟩
   ·try simp at h_24
    cases hp
    try simp [q_7,h_8,h_24]
    refine zag ?_
    rw [X_4_]
    exact ⟨_,rfl,by simp [zac,zaa,q_7,h_8,h_24],NoBox.restrict (by intro k hk hb;simp at hk hb;simp [hk,hb,q_7,h_8,h_24,hn_6 k (by simp [hk,hb])])⟩
 ·intro out hX
  rw [X_4_] at hX
  rcases r_40 with r_40 | r_40
  ·simp only [Sum.elim_inl,Sum.elim_inr] at hX hp
   obtain ⟨σ_42,rfl,q_44,hn_43⟩:=hX
   cases hp
   simp [Goal,FnEnd,q_44]
  ·simp only [Sum.elim_inl,Sum.elim_inr] at hX hp
   obtain ⟨σ_45,rfl,q_47,hn_46⟩:=hX
   cases hp
   simp [Goal,FnEnd,q_47]
theorem pc110:PC Tryz.prog 110 C110:=pc_of (g:=g110) (zai _ g110_s.2.1 ⟨pc109,pc140,trivial⟩) (ent Tryz.func110) fun x y h=>w110 h

def C70:List AV→Option AV:=specP (X:=THeap × Unit) fun x=>zdh x.1
theorem C70_eq {h_} {y} (h:zdh h_=some y):C70 [av .shr h_]=some (Res.res y):=zah (x:=(h_,())) h
def g70:Cfg:={ P:=Tryz.prog,take:=[(70,49),(70,58),(70,70),(70,71),(70,82),(70,96)],keep:=[((70,5),{ hd:=[1,2,3,29,30],bx:=[5],ex:=[2,3],rt:=[2] }),((70,9),{ hd:=[1,2,3,4,5,29,30,42,43,44],bx:=[],ex:=[1,2,3,4,5,29,30],rt:=[2] }),((70,16),{ hd:=[1,2,3,4,29,30,77,78],bx:=[],ex:=[1,2,3,29,30],rt:=[2] })],gho:=[],ctx:=[(90,C90),(106,C106),(107,C107),(108,C108),(109,C109),(110,C110)] }
@[simp] theorem g70_s:type_of% (cfg_s (g:=g70) rfl):=cfg_s rfl
theorem w70 {h_} {y} (hp:zdh h_=some y):∃ m,callo g70 0 70 [av .shr h_] mem0=some (Res.res y,m):=by
 refine st0 [.cell 2 32] Tryz.func70 ?_
 unfold zdh at hp
 obtain ⟨y_1,h_2,hp⟩:=zab hp
 have c_3:=C106_eq h_2
 simp at c_3
 simp [Tryz.f70,c_3]
 rcases zad hp with ⟨h_4,hp⟩|⟨h_4,hp⟩
 ·try simp at h_4
  try simp [h_4]
  rcases zad hp with ⟨h_5,hp⟩|⟨h_5,hp⟩
  ·try simp at h_5
   cases hp
   simp [Goal,FnEnd,retR,rsrc,RSrc.val,nodupR,nodup,tupPart,h_4,h_5]
  ·try simp at h_5
   obtain ⟨y_6,h_7,hp⟩:=zab hp
   have c_8:=zoz h_7
   simp at c_8
   try simp [h_4,h_5,c_8]
   rcases zad hp with ⟨h_9,hp⟩|⟨h_9,hp⟩
   ·try simp at h_9
    try simp [h_4,h_5,h_9]
    obtain ⟨r_84,h_85,hp⟩:=zab hp
    obtain ⟨I_12,I_12_⟩:=exV fun (s_10:Int × (List TNode) × (List Int)) (σ:St)=>(σ.env 1=uP (1,1)∧σ.env 2=uP (1,2)∧σ.env 3=uP (1,3)∧σ.env 29=uI (h_.next.length:Int)∧σ.env 30=uI s_10.1∧σ.mem (1,1)=some [cL .shr h_.vars,cL .shr h_.next]∧σ.mem (1,2)=some [.l .own 0 [],.l .own 0 []]∧σ.mem (1,3)=some [cL .own s_10.2.1,cL .own s_10.2.2])∧NoBox [(1,1),(1,2),(1,3)] σ.mem
    obtain ⟨X_13,X_13_⟩:=exV fun (r_84:(List TNode) × (List Int)) (out:Out)=>∃ σ:St,out=.exit 0 σ∧(σ.env 2=uP (1,2)∧σ.env 3=uP (1,3)∧σ.mem (1,1)=some [cL .shr h_.vars,cL .shr h_.next]∧σ.mem (1,2)=some [.l .own 0 [],.l .own 0 []]∧σ.mem (1,3)=some [cL .own r_84.1,cL .own r_84.2])∧NoBox [(1,1),(1,2),(1,3)] σ.mem
    refine loopP ({ hd:=[1,2,3,29,30],bx:=[5],ex:=[2,3],rt:=[2] }) I_12 X_13 h_85 (by exact rfl) ?_ ?_ ?_
    ·rw [I_12_]
     exact ⟨by simp [zac,zaa,h_4,h_5,h_9],NoBox.restrict (by intro k hk hb;simp at hk hb;simp [hk,hb,h_4,h_5,h_9])⟩
    ·intro s_10 σ_14 a_11 hI hp
     rw [I_12_] at hI
     obtain ⟨q_16,hn_15⟩:=hI
     try simp [h_4,h_5,h_9,q_16]
     rcases zad hp with ⟨h_17,hp⟩|⟨h_17,hp⟩
     ·try simp at h_17
      obtain ⟨y_18,h_19,hp⟩:=zab hp
      have c_20:=C108_eq h_19
      simp at c_20
      obtain ⟨y_21,h_22,hp⟩:=zab hp
      have c_23:=zro h_22
      simp at c_23
      have n_24:=hn_15 (1,5) (by simp)
      try simp [h_4,h_5,h_9,q_16,h_17,c_20,c_23,n_24]
      obtain ⟨r_54,h_55,hp⟩:=zab hp
      obtain ⟨I_27,I_27_⟩:=exV fun (s_25:Int × (List Int) × (List Int)) (σ:St)=>(σ.env 1=uP (1,1)∧σ.env 2=uP (1,2)∧σ.env 3=uP (1,3)∧σ.env 4=uI s_10.1∧σ.env 5=uP (1,5)∧σ.env 29=uI (h_.next.length:Int)∧σ.env 30=uI s_10.1∧σ.env 42=uL .shr h_.vars∧σ.env 43=uI (h_.vars.length:Int)∧σ.env 44=uI s_25.1∧σ.mem (1,1)=some [cL .shr h_.vars,cL .shr h_.next]∧σ.mem (1,2)=some [.l .own 0 [],.l .own 0 []]∧σ.mem (1,3)=some [cL .own s_10.2.1,cL .own s_10.2.2]∧σ.mem (1,5)=some [cL .own s_25.2.1,cL .own s_25.2.2,cI y_21,cI 0])∧NoBox [(1,1),(1,2),(1,3),(1,5)] σ.mem
      obtain ⟨X_28,X_28_⟩:=exV fun (r_54:(List Int) × (List Int)) (out:Out)=>∃ σ:St,out=.exit 2 σ∧(σ.env 1=uP (1,1)∧σ.env 2=uP (1,2)∧σ.env 3=uP (1,3)∧σ.env 4=uI s_10.1∧σ.env 5=uP (1,5)∧σ.env 29=uI (h_.next.length:Int)∧σ.env 30=uI s_10.1∧σ.mem (1,1)=some [cL .shr h_.vars,cL .shr h_.next]∧σ.mem (1,2)=some [.l .own 0 [],.l .own 0 []]∧σ.mem (1,3)=some [cL .own s_10.2.1,cL .own s_10.2.2]∧σ.mem (1,5)=some [cL .own r_54.1,cL .own r_54.2,cI y_21,cI 0])∧NoBox [(1,1),(1,2),(1,3),(1,5)] σ.mem
      refine loopP ({ hd:=[1,2,3,4,5,29,30,42,43,44],bx:=[],ex:=[1,2,3,4,5,29,30],rt:=[2] }) I_27 X_28 h_55 (by exact rfl) ?_ ?_ ?_
      ·rw [I_27_]
       exact ⟨by simp [zac,zaa,h_4,h_5,h_9,q_16,h_17],NoBox.restrict (by intro k hk hb;simp at hk hb;simp [hk,hb,h_4,h_5,h_9,q_16,h_17,hn_15 k (by simp [hk,hb])])⟩
      ·intro s_25 σ_29 a_26 hI hp
       rw [I_27_] at hI
       obtain ⟨q_31,hn_30⟩:=hI
       try simp [h_4,h_5,h_9,h_17,q_31]
       rcases zad hp with ⟨h_32,hp⟩|⟨h_32,hp⟩
       ·try simp at h_32
        obtain ⟨e_33,h_34,hp⟩:=zab hp
        have b_35:=at_lo h_34
        have b_36:=at_hi h_34
        try simp at b_35 b_36
        have c_37:=seg_at' h_34 0 1 (by decide) (ds:=[.sc (.int .i64 e_33)]) rfl
        try simp at c_37
        obtain ⟨y_38,h_39,hp⟩:=zab hp
        have c_40:=zro h_39
        simp at c_40
        obtain ⟨_,h_41,hp⟩:=zab hp
        have b_42:=zap h_41
        try simp at b_42
        obtain ⟨y_43,h_44,hp⟩:=zab hp
        have c_45:=C110_eq h_44
        simp at c_45
        obtain ⟨y_46,h_47,hp⟩:=zab hp
        have c_48:=zlz h_47
        simp at c_48
        obtain ⟨y_49,h_50,hp⟩:=zab hp
        have c_51:=zro h_50
        simp at c_51
        obtain ⟨_,h_52,hp⟩:=zab hp
        have b_53:=zap h_52
        try simp at b_53
        cases hp
        try simp [h_4,h_5,h_9,h_17,q_31,h_32,b_35,b_36,c_37,c_40,b_42,c_45,c_48,c_51,b_53]
        refine zae ?_
        rw [I_27_]
        exact ⟨by simp [zac,zaa,h_4,h_5,h_9,h_17,q_31,h_32,b_35,b_36,c_37,c_40,b_42,c_45,c_48,c_51,b_53],NoBox.restrict (by intro k hk hb;simp at hk hb;simp [hk,hb,h_4,h_5,h_9,h_17,q_31,h_32,b_35,b_36,c_37,c_40,b_42,c_45,c_48,c_51,b_53,hn_30 k (by simp [hk,hb])])⟩
       ·try simp at h_32
        cases hp
        try simp [h_4,h_5,h_9,h_17,q_31,h_32]
        refine zag ?_
        rw [X_28_]
        exact ⟨_,rfl,by simp [zac,zaa,h_4,h_5,h_9,h_17,q_31,h_32],NoBox.restrict (by intro k hk hb;simp at hk hb;simp [hk,hb,h_4,h_5,h_9,h_17,q_31,h_32,hn_30 k (by simp [hk,hb])])⟩
      ·intro out hX
       rw [X_28_] at hX
       obtain ⟨σ_56,rfl,q_58,hn_57⟩:=hX
       obtain ⟨_,h_59,hp⟩:=zab hp
       have b_60:=zap h_59
       try simp at b_60
       try simp [h_4,h_5,h_9,h_17,q_58,b_60]
       obtain ⟨r_79,h_80,hp⟩:=zab hp
       obtain ⟨I_63,I_63_⟩:=exV fun (s_61:Int × (List Int)) (σ:St)=>(σ.env 1=uP (1,1)∧σ.env 2=uP (1,2)∧σ.env 3=uP (1,3)∧σ.env 4=uI s_10.1∧σ.env 29=uI (h_.next.length:Int)∧σ.env 30=uI s_10.1∧σ.env 77=uI (h_.next.length:Int)∧σ.env 78=uI s_61.1∧σ.mem (1,1)=some [cL .shr h_.vars,cL .shr h_.next]∧σ.mem (1,2)=some [.l .own 0 [],.l .own 0 []]∧σ.mem (1,3)=some [cL .own (s_10.2.1 ++ [(⟨r_54.1,r_54.2,y_21,0⟩:TNode)]),cL .own s_61.2]∧σ.mem (1,5)=some [.dead,.dead,.dead,.dead])∧NoBox [(1,1),(1,2),(1,3),(1,5)] σ.mem
       obtain ⟨X_64,X_64_⟩:=exV fun (r_79:(List Int)) (out:Out)=>∃ σ:St,out=.exit 4 σ∧(σ.env 1=uP (1,1)∧σ.env 2=uP (1,2)∧σ.env 3=uP (1,3)∧σ.env 29=uI (h_.next.length:Int)∧σ.env 30=uI s_10.1∧σ.mem (1,1)=some [cL .shr h_.vars,cL .shr h_.next]∧σ.mem (1,2)=some [.l .own 0 [],.l .own 0 []]∧σ.mem (1,3)=some [cL .own (s_10.2.1 ++ [(⟨r_54.1,r_54.2,y_21,0⟩:TNode)]),cL .own r_79]∧σ.mem (1,5)=some [.dead,.dead,.dead,.dead])∧NoBox [(1,1),(1,2),(1,3),(1,5)] σ.mem
       refine loopP ({ hd:=[1,2,3,4,29,30,77,78],bx:=[],ex:=[1,2,3,29,30],rt:=[2] }) I_63 X_64 h_80 (by exact rfl) ?_ ?_ ?_
       ·rw [I_63_]
        exact ⟨by simp [zac,zaa,h_4,h_5,h_9,h_17,q_58],NoBox.restrict (by intro k hk hb;simp at hk hb;simp [hk,hb,h_4,h_5,h_9,h_17,q_58,hn_57 k (by simp [hk,hb])])⟩
       ·intro s_61 σ_65 a_62 hI hp
        rw [I_63_] at hI
        obtain ⟨q_67,hn_66⟩:=hI
        try simp [h_4,h_5,h_9,h_17,q_67]
        rcases zad hp with ⟨h_68,hp⟩|⟨h_68,hp⟩
        ·try simp at h_68
         obtain ⟨e_69,h_70,hp⟩:=zab hp
         have b_71:=at_lo h_70
         have b_72:=at_hi h_70
         try simp at b_71 b_72
         have c_73:=seg_at' h_70 0 1 (by decide) (ds:=[.sc (.int .i64 e_69)]) rfl
         try simp at c_73
         obtain ⟨y_74,h_75,hp⟩:=zab hp
         have c_76:=zro h_75
         simp at c_76
         obtain ⟨_,h_77,hp⟩:=zab hp
         have b_78:=zap h_77
         try simp at b_78
         cases hp
         try simp [h_4,h_5,h_9,h_17,q_67,h_68,b_71,b_72,c_73,c_76,b_78]
         refine zae ?_
         rw [I_63_]
         exact ⟨by simp [zac,zaa,h_4,h_5,h_9,h_17,q_67,h_68,b_71,b_72,c_73,c_76,b_78],NoBox.restrict (by intro k hk hb;simp at hk hb;simp [hk,hb,h_4,h_5,h_9,h_17,q_67,h_68,b_71,b_72,c_73,c_76,b_78,hn_66 k (by simp [hk,hb])])⟩
        ·try simp at h_68
         cases hp
         try simp [h_4,h_5,h_9,h_17,q_67,h_68]
         refine zag ?_
         rw [X_64_]
         exact ⟨_,rfl,by simp [zac,zaa,h_4,h_5,h_9,h_17,q_67,h_68],NoBox.restrict (by intro k hk hb;simp at hk hb;simp [hk,hb,h_4,h_5,h_9,h_17,q_67,h_68,hn_66 k (by simp [hk,hb])])⟩
       ·intro out hX
        rw [X_64_] at hX
        obtain ⟨σ_81,rfl,q_83,hn_82⟩:=hX
        cases hp
        try simp [h_4,h_5,h_9,h_17,q_83]
        refine zae ?_
        rw [I_12_]
        exact ⟨by simp [zac,zaa,h_4,h_5,h_9,h_17,q_83],NoBox.restrict (by intro k hk hb;simp at hk hb;simp [hk,hb,h_4,h_5,h_9,h_17,q_83,hn_82 k (by simp [hk,hb])])⟩
     ·try simp at h_17
      cases hp
      try simp [h_4,h_5,h_9,q_16,h_17]
      refine zag ?_
      rw [X_13_]
      exact ⟨_,rfl,by simp [zac,zaa,h_4,h_5,h_9,q_16,h_17],NoBox.restrict (by intro k hk hb;simp at hk hb;simp [hk,hb,h_4,h_5,h_9,q_16,h_17,hn_15 k (by simp [hk,hb])])⟩
    ·intro out hX
     rw [X_13_] at hX
     obtain ⟨σ_86,rfl,q_88,hn_87⟩:=hX
     cases hp
     simp [Goal,FnEnd,retR,rsrc,RSrc.val,nodupR,nodup,tupPart,h_4,h_5,h_9,q_88]
   ·try simp at h_9
    cases hp
    simp [Goal,FnEnd,retR,rsrc,RSrc.val,nodupR,nodup,tupPart,h_4,h_5,h_9]
 ·try simp at h_4
  cases hp
  simp [Goal,FnEnd,retR,rsrc,RSrc.val,nodupR,nodup,tupPart,h_4]
theorem pc70:PC Tryz.prog 70 C70:=pc_of (g:=g70) (zai _ g70_s.2.1 ⟨pc90,pc106,pc107,pc108,pc109,pc110,trivial⟩) (ent Tryz.func70) fun x y h=>w70 h
end Go.Proofs

