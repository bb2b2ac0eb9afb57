import Derived.Test.YtfcfpdcjepobpaaGreatEvA13
set_option linter.unusedSimpArgs false
set_option linter.unusedVariables false
set_option linter.unnecessarySimpa false
noncomputable section
set_option maxHeartbeats 4000000
set_option maxRecDepth 100000
namespace Go.Proofs
open Go.Ev
def C67:List AV→Option AV:=specP (X:=TStructure × Unit) fun x=>zav x.1
theorem C67_eq {s} {y} (h:zav s=some y):C67 [av .shr s]=some (Res.res y):=zah (x:=(s,())) h
def g67:Cfg:={ P:=Tryz.prog,take:=[],keep:=[],gho:=[],ctx:=[(57,C57)] }
@[simp] theorem g67_s:type_of% (cfg_s (g:=g67) rfl):=cfg_s rfl
theorem w67 {s} {y} (hp:zav s=some y):∃ m,callo g67 0 67 [av .shr s] mem0=some (Res.res y,m):=by
 refine st0 [.tmp 2] Tryz.func67 ?_
 unfold zav at hp
 simp [Tryz.f67]
 rcases zad hp with ⟨h_1,hp⟩|⟨h_1,hp⟩
 ·try simp at h_1
  cases hp
  simp [Goal,FnEnd,h_1]
 ·try simp at h_1
  obtain ⟨y_2,h_3,hp⟩:=zaa hp
  have c_4:=C57_eq h_3
  simp at c_4
  cases hp
  simp [Goal,FnEnd,h_1,c_4]
theorem pc67:PC Tryz.prog 67 C67:=pc_of (g:=g67) (zag _ g67_s.2.1 ⟨pc57,trivial⟩) (ent Tryz.func67) fun x y h=>w67 h

def C105:List AV→Option AV:=specP (X:=(List Int) × Int × Unit) fun x=>zex x.1 x.2.1
theorem C105_eq {list k_} {y} (h:zex list k_=some y):C105 [av .shr list,av .shr k_]=some (Res.res y):=zah (x:=(list,k_,())) h
def g105:Cfg:={ P:=Tryz.prog,take:=[],keep:=[],gho:=[],ctx:=[(66,C66)] }
@[simp] theorem g105_s:type_of% (cfg_s (g:=g105) rfl):=cfg_s rfl
theorem w105 {list k_} {y} (hp:zex list k_=some y):∃ m,callo g105 0 105 [av .shr list,av .shr k_] mem0=some (Res.res y,m):=by
 refine st0 [.tmp 4] Tryz.func105 ?_
 unfold zex at hp
 obtain ⟨y_1,h_2,hp⟩:=zaa hp
 have c_3:=zgn h_2
 simp at c_3
 simp [Tryz.f105,c_3]
 rcases zad hp with ⟨h_4,hp⟩|⟨h_4,hp⟩
 ·try simp at h_4
  obtain ⟨e_5,h_6,hp⟩:=zaa hp
  have b_7:=at_lo h_6
  have b_8:=at_hi h_6
  try simp at b_7 b_8
  have c_9:=seg_at' h_6 0 1 (by decide) (ds:=[.sc (.int .i64 e_5)]) rfl
  try simp at c_9
  cases hp
  simp [Goal,FnEnd,h_4,b_7,b_8,c_9]
 ·try simp at h_4
  cases hp
  simp [Goal,FnEnd,h_4]
theorem pc105:PC Tryz.prog 105 C105:=pc_of (g:=g105) (zag _ g105_s.2.1 ⟨pc66,trivial⟩) (ent Tryz.func105) fun x y h=>w105 h

def C69:List AV→Option AV:=specP (X:=TStructure × Int × Int × Unit) fun x=>zbr x.1 x.2.1 x.2.2.1
theorem C69_eq {s k_ i} {y} (h:zbr s k_ i=some y):C69 [av .shr s,av .shr k_,av .shr i]=some (Res.res y):=zah (x:=(s,k_,i,())) h
def g69:Cfg:={ P:=Tryz.prog,take:=[],keep:=[],gho:=[],ctx:=[(57,C57),(66,C66),(105,C105)] }
@[simp] theorem g69_s:type_of% (cfg_s (g:=g69) rfl):=cfg_s rfl
theorem w69 {s k_ i} {y} (hp:zbr s k_ i=some y):∃ m,callo g69 0 69 [av .shr s,av .shr k_,av .shr i] mem0=some (Res.res y,m):=by
 refine st0 [.tmp 6] Tryz.func69 ?_
 unfold zbr at hp
 obtain ⟨y_1,h_2,hp⟩:=zaa hp
 have c_3:=C57_eq h_2
 simp at c_3
 obtain ⟨y_4,h_5,hp⟩:=zaa hp
 have c_6:=zgn h_5
 simp at c_6
 simp [Tryz.f69,c_3,c_6]
 rcases zad hp with ⟨h_7,hp⟩|⟨h_7,hp⟩
 ·try simp at h_7
  obtain ⟨y_8,h_9,hp⟩:=zaa hp
  have c_10:=zgn h_9
  simp at c_10
  try simp [h_7,c_10]
  rcases zad hp with ⟨h_11,hp⟩|⟨h_11,hp⟩
  ·try simp at h_11
   obtain ⟨e_12,h_13,hp⟩:=zaa hp
   have b_14:=at_lo h_13
   have b_15:=at_hi h_13
   try simp at b_14 b_15
   have c_16:=seg_at' h_13 0 1 (by decide) (ds:=[.sl e_12.vars.length (encL e_12.vars)]) rfl
   try simp at c_16
   obtain ⟨y_17,h_18,hp⟩:=zaa hp
   have c_19:=C105_eq h_18
   simp at c_19
   cases hp
   simp [Goal,FnEnd,h_7,h_11,b_14,b_15,c_16,c_19]
  ·try simp at h_11
   obtain ⟨y_20,h_21,hp⟩:=zaa hp
   have c_22:=zgn h_21
   simp at c_22
   try simp [h_7,h_11,c_22]
   rcases zad hp with ⟨h_23,hp⟩|⟨h_23,hp⟩
   ·try simp at h_23
    obtain ⟨e_24,h_25,hp⟩:=zaa hp
    have b_26:=at_lo h_25
    have b_27:=at_hi h_25
    try simp at b_26 b_27
    have c_28:=seg_at' h_25 1 1 (by decide) (ds:=[.sl e_24.reach.length (encL e_24.reach)]) rfl
    try simp at c_28
    obtain ⟨y_29,h_30,hp⟩:=zaa hp
    have c_31:=C105_eq h_30
    simp at c_31
    cases hp
    simp [Goal,FnEnd,h_7,h_11,h_23,b_26,b_27,c_28,c_31]
   ·try simp at h_23
    try simp [h_7,h_11,h_23]
    rcases zad hp with ⟨h_32,hp⟩|⟨h_32,hp⟩
    ·try simp at h_32
     obtain ⟨e_33,h_34,hp⟩:=zaa hp
     have b_35:=at_lo h_34
     have b_36:=at_hi h_34
     try simp at b_35 b_36
     have c_37:=seg_at' h_34 2 1 (by decide) (ds:=[.sc (.int .i64 e_33.shared)]) rfl
     try simp at c_37
     cases hp
     simp [Goal,FnEnd,h_7,h_11,h_23,h_32,b_35,b_36,c_37]
    ·try simp at h_32
     cases hp
     simp [Goal,FnEnd,h_7,h_11,h_23,h_32]
 ·try simp at h_7
  cases hp
  simp [Goal,FnEnd,h_7]
theorem pc69:PC Tryz.prog 69 C69:=pc_of (g:=g69) (zag _ g69_s.2.1 ⟨pc57,pc66,pc105,trivial⟩) (ent Tryz.func69) fun x y h=>w69 h

def C68:List AV→Option AV:=specP (X:=Int × Unit) fun x=>zdk x.1
theorem C68_eq {a_} {y} (h:zdk a_=some y):C68 [av .shr a_]=some (Res.res y):=zah (x:=(a_,())) h
def g68:Cfg:={ P:=Tryz.prog,take:=[],keep:=[],gho:=[],ctx:=[(73,C73)] }
@[simp] theorem g68_s:type_of% (cfg_s (g:=g68) rfl):=cfg_s rfl
theorem w68 {a_} {y} (hp:zdk a_=some y):∃ m,callo g68 0 68 [av .shr a_] mem0=some (Res.res y,m):=by
 refine st0 [.tmp 2] Tryz.func68 ?_
 unfold zdk at hp
 obtain ⟨y_1,h_2,hp⟩:=zaa hp
 have c_3:=zph h_2
 simp at c_3
 simp [Tryz.f68,c_3]
 rcases zad hp with ⟨h_4,hp⟩|⟨h_4,hp⟩
 ·try simp at h_4
  obtain ⟨z_5,h_6,hp⟩:=zaa hp
  have c_7:=sl_str Tryz.underlying9 h_6
  cases hp
  simp [Goal,FnEnd,h_4,c_7]
 ·try simp at h_4
  cases hp
  simp [Goal,FnEnd,h_4]
theorem pc68:PC Tryz.prog 68 C68:=pc_of (g:=g68) (zag _ g68_s.2.1 ⟨pc73,trivial⟩) (ent Tryz.func68) fun x y h=>w68 h

def C27:List AV→Option AV:=specP (X:=TStructure × Int × Unit) fun x=>zct x.1 x.2.1
theorem C27_eq {s i} {y} (h:zct s i=some y):C27 [av .shr s,av .shr i]=some (Res.res y):=zah (x:=(s,i,())) h
def g27:Cfg:={ P:=Tryz.prog,take:=[],keep:=[((27,6),{ hd:=[1,2,5,6,7],bx:=[],ex:=[5],rt:=[4] })],gho:=[],ctx:=[(66,C66),(67,C67),(68,C68),(69,C69)] }
@[simp] theorem g27_s:type_of% (cfg_s (g:=g27) rfl):=cfg_s rfl
theorem w27 {s i} {y} (hp:zct s i=some y):∃ m,callo g27 0 27 [av .shr s,av .shr i] mem0=some (Res.res y,m):=by
 refine st0 [.tmp 4] Tryz.func27 ?_
 unfold zct at hp
 obtain ⟨y_1,h_2,hp⟩:=zaa hp
 have c_3:=zgn h_2
 simp at c_3
 simp [Tryz.f27,c_3]
 rcases zad hp with ⟨h_4,hp⟩|⟨h_4,hp⟩
 ·try simp at h_4
  obtain ⟨y_5,h_6,hp⟩:=zaa hp
  have c_7:=C67_eq h_6
  simp at c_7
  try simp [h_4,c_7]
  obtain ⟨r_25,h_26,hp⟩:=zaa hp
  obtain ⟨I_10,I_10_⟩:=exV fun (s_8:ByteArray × Int) (σ:St)=>(σ.env 1=uI i∧σ.env 2=uP (1,2)∧σ.env 5=.one (.s (.string s_8.1))∧σ.env 6=uI y_5∧σ.env 7=uI s_8.2∧σ.mem (1,2)=some [cL .shr s.nodes,cL .shr s.next])∧NoBox [(1,2)] σ.mem
  obtain ⟨X_11,X_11_⟩:=exV fun (r_25:ByteArray) (out:Out)=>∃ σ:St,out=.exit 0 σ∧(σ.env 5=.one (.s (.string r_25))∧σ.mem (1,2)=some [cL .shr s.nodes,cL .shr s.next])∧NoBox [(1,2)] σ.mem
  refine loopP ({ hd:=[1,2,5,6,7],bx:=[],ex:=[5],rt:=[4] }) I_10 X_11 h_26 (by exact rfl) ?_ ?_ ?_
  ·rw [I_10_]
   exact ⟨by simp [zac,zab,h_4],NoBox.restrict (by intro k hk hb;simp at hk hb;simp [hk,hb,h_4])⟩
  ·intro s_8 σ_12 a_9 hI hp
   rw [I_10_] at hI
   obtain ⟨q_14,hn_13⟩:=hI
   try simp [h_4,q_14]
   rcases zad hp with ⟨h_15,hp⟩|⟨h_15,hp⟩
   ·try simp at h_15
    obtain ⟨y_16,h_17,hp⟩:=zaa hp
    have c_18:=C69_eq h_17
    simp at c_18
    obtain ⟨y_19,h_20,hp⟩:=zaa hp
    have c_21:=C68_eq h_20
    simp at c_21
    obtain ⟨z_22,h_23,hp⟩:=zaa hp
    have c_24:=cat_str (P:=Tryz.prog) (t:=9) h_23
    cases hp
    try simp [h_4,q_14,h_15,c_18,c_21,c_24]
    refine zaf ?_
    rw [I_10_]
    exact ⟨by simp [zac,zab,h_4,q_14,h_15,c_18,c_21,c_24],NoBox.restrict (by intro k hk hb;simp at hk hb;simp [hk,hb,h_4,q_14,h_15,c_18,c_21,c_24,hn_13 k (by simp [hk,hb])])⟩
   ·try simp at h_15
    cases hp
    try simp [h_4,q_14,h_15]
    refine zai ?_
    rw [X_11_]
    exact ⟨_,rfl,by simp [zac,zab,h_4,q_14,h_15],NoBox.restrict (by intro k hk hb;simp at hk hb;simp [hk,hb,h_4,q_14,h_15,hn_13 k (by simp [hk,hb])])⟩
  ·intro out hX
   rw [X_11_] at hX
   obtain ⟨σ_27,rfl,q_29,hn_28⟩:=hX
   cases hp
   simp [Goal,FnEnd,h_4,q_29]
 ·try simp at h_4
  cases hp
  simp [Goal,FnEnd,h_4]
theorem pc27:PC Tryz.prog 27 C27:=pc_of (g:=g27) (zag _ g27_s.2.1 ⟨pc66,pc67,pc68,pc69,trivial⟩) (ent Tryz.func27) fun x y h=>w27 h

def C59:List AV→Option AV:=specS (X:=TStructure × Unit) fun x=>zfm x.1
theorem C59_eq {s} {y} (h:zfm s=some y):C59 [av .shr s]=some (av .shr y):=specS_eq (x:=(s,())) h
theorem pc59:PC Tryz.prog 59 C59:=pc_l17 pc27 fun s i x h=>C27_eq h

def C60:List AV→Option AV:=specP (X:=TStructure × (List Int) × Unit) fun x=>zem x.1 x.2.1
theorem C60_eq {s group} {y} (h:zem s group=some y):C60 [av .shr s,av .shr group]=some (Res.res y):=zah (x:=(s,group,())) h
def g60:Cfg:={ P:=Tryz.prog,take:=[(60,37)],keep:=[((60,3),{ hd:=[1,2,4,5,6],bx:=[],ex:=[4,5],rt:=[4] })],gho:=[],ctx:=[(102,C102)] }
@[simp] theorem g60_s:type_of% (cfg_s (g:=g60) rfl):=cfg_s rfl
theorem w60 {s group} {y} (hp:zem s group=some y):∃ m,callo g60 0 60 [av .shr s,av .shr group] mem0=some (Res.res y,m):=by
 refine st0 [.cell 4 75] Tryz.func60 ?_
 unfold zem at hp
 obtain ⟨e_1,h_2,hp⟩:=zaa hp
 have b_4:=at_hi h_2
 try simp at b_4
 have c_5:=seg_at' h_2 0 1 (by decide) (ds:=[.sc (.int .i64 e_1)]) rfl
 try simp at c_5
 obtain ⟨e_6,h_7,hp⟩:=zaa hp
 have b_8:=at_lo h_7
 have b_9:=at_hi h_7
 try simp at b_8 b_9
 have c_10:=seg_at' h_7 0 4 (by decide) (ds:=[.sl e_6.vars.length (encL e_6.vars),.sl e_6.reach.length (encL e_6.reach),.sc (.int .i64 e_6.shared),.sc (.int .i64 e_6.many)]) rfl
 try simp at c_10
 obtain ⟨y_11,h_12,hp⟩:=zaa hp
 have c_13:=C102_eq h_12
 simp at c_13
 simp [Tryz.f60,b_4,c_5,b_8,b_9,c_10,c_13]
 obtain ⟨r_34,h_35,hp⟩:=zaa hp
 obtain ⟨I_16,I_16_⟩:=exV fun (s_14:Int × Int) (σ:St)=>(σ.env 1=uL .shr group∧σ.env 2=uP (1,2)∧σ.env 4=uP (1,4)∧σ.env 5=uP (1,5)∧σ.env 6=uI s_14.1∧σ.mem (1,2)=some [cL .shr s.nodes,cL .shr s.next]∧σ.mem (1,4)=some [.l .own 0 [],.l .own 0 [],cI 0,cI 0]∧σ.mem (1,5)=some [cL .own y_11.vars,cL .own y_11.reach,cI y_11.shared,cI s_14.2])∧NoBox [(1,2),(1,4),(1,5)] σ.mem
 obtain ⟨X_17,X_17_⟩:=exV fun (r_34:Int) (out:Out)=>∃ σ:St,out=.exit 0 σ∧(σ.env 4=uP (1,4)∧σ.env 5=uP (1,5)∧σ.mem (1,2)=some [cL .shr s.nodes,cL .shr s.next]∧σ.mem (1,4)=some [.l .own 0 [],.l .own 0 [],cI 0,cI 0]∧σ.mem (1,5)=some [cL .own y_11.vars,cL .own y_11.reach,cI y_11.shared,cI r_34])∧NoBox [(1,2),(1,4),(1,5)] σ.mem
 refine loopP ({ hd:=[1,2,4,5,6],bx:=[],ex:=[4,5],rt:=[4] }) I_16 X_17 h_35 (by exact rfl) ?_ ?_ ?_
 ·rw [I_16_]
  exact ⟨by simp [zac,zab],NoBox.restrict (by intro k hk hb;simp at hk hb;simp [hk,hb])⟩
 ·intro s_14 σ_18 a_15 hI hp
  rw [I_16_] at hI
  obtain ⟨q_20,hn_19⟩:=hI
  try simp [q_20]
  rcases zad hp with ⟨h_21,hp⟩|⟨h_21,hp⟩
  ·try simp at h_21
   try simp [q_20,h_21]
   rcases zad hp with ⟨h_22,hp⟩|⟨h_22,hp⟩
   ·try simp at h_22
    cases hp
    try simp [q_20,h_21,h_22]
    refine zaf ?_
    rw [I_16_]
    exact ⟨by simp [zac,zab,q_20,h_21,h_22],NoBox.restrict (by intro k hk hb;simp at hk hb;simp [hk,hb,q_20,h_21,h_22,hn_19 k (by simp [hk,hb])])⟩
   ·try simp at h_22
    obtain ⟨e_23,h_24,hp⟩:=zaa hp
    have b_25:=at_lo h_24
    have b_26:=at_hi h_24
    try simp at b_25 b_26
    have c_27:=seg_at' h_24 0 1 (by decide) (ds:=[.sc (.int .i64 e_23)]) rfl
    try simp at c_27
    obtain ⟨e_28,h_29,hp⟩:=zaa hp
    have b_30:=at_lo h_29
    have b_31:=at_hi h_29
    try simp at b_30 b_31
    have c_32:=seg_at' h_29 3 1 (by decide) (ds:=[.sc (.int .i64 e_28.many)]) rfl
    try simp at c_32
    try simp [q_20,h_21,h_22,b_25,b_26,c_27,b_30,b_31,c_32]
    rcases zad hp with ⟨h_33,hp⟩|⟨h_33,hp⟩
    ·try simp at h_33
     cases hp
     try simp [q_20,h_21,h_22,h_33]
     refine zaf ?_
     rw [I_16_]
     exact ⟨by simp [zac,zab,q_20,h_21,h_22,h_33],NoBox.restrict (by intro k hk hb;simp at hk hb;simp [hk,hb,q_20,h_21,h_22,h_33,hn_19 k (by simp [hk,hb])])⟩
    ·try simp at h_33
     cases hp
     try simp [q_20,h_21,h_22,h_33]
     refine zaf ?_
     rw [I_16_]
     exact ⟨by simp [zac,zab,q_20,h_21,h_22,h_33],NoBox.restrict (by intro k hk hb;simp at hk hb;simp [hk,hb,q_20,h_21,h_22,h_33,hn_19 k (by simp [hk,hb])])⟩
  ·try simp at h_21
   cases hp
   try simp [q_20,h_21]
   refine zai ?_
   rw [X_17_]
   exact ⟨_,rfl,by simp [zac,zab,q_20,h_21],NoBox.restrict (by intro k hk hb;simp at hk hb;simp [hk,hb,q_20,h_21,hn_19 k (by simp [hk,hb])])⟩
 ·intro out hX
  rw [X_17_] at hX
  obtain ⟨σ_36,rfl,q_38,hn_37⟩:=hX
  cases hp
  simp [Goal,FnEnd,retR,rsrc,RSrc.val,nodupR,nodup,tupPart,q_38]
theorem pc60:PC Tryz.prog 60 C60:=pc_of (g:=g60) (zag _ g60_s.2.1 ⟨pc102,trivial⟩) (ent Tryz.func60) fun x y h=>w60 h

def C103:List AV→Option AV:=specP (X:=TStructure × Int × Int × Unit) fun x=>zcn x.1 x.2.1 x.2.2.1
theorem zlr {s i j} {y} (h:zcn s i j=some y):C103 [av .shr s,av .shr i,av .shr j]=some (Res.res y):=zah (x:=(s,i,j,())) h
def g103:Cfg:={ P:=Tryz.prog,take:=[],keep:=[],gho:=[],ctx:=[(66,C66)] }
@[simp] theorem g103_s:type_of% (cfg_s (g:=g103) rfl):=cfg_s rfl
theorem w103 {s i j} {y} (hp:zcn s i j=some y):∃ m,callo g103 0 103 [av .shr s,av .shr i,av .shr j] mem0=some (Res.res y,m):=by
 refine st0 [.tmp 6] Tryz.func103 ?_
 unfold zcn at hp
 obtain ⟨y_1,h_2,hp⟩:=zaa hp
 have c_3:=zgn h_2
 simp at c_3
 simp [Tryz.f103,c_3]
 rcases zad hp with ⟨h_4,hp⟩|⟨h_4,hp⟩
 ·try simp at h_4
  obtain ⟨y_5,h_6,hp⟩:=zaa hp
  have c_7:=zgn h_6
  simp at c_7
  try simp [h_4,c_7]
  rcases zad hp with ⟨h_8,hp⟩|⟨h_8,hp⟩
  ·try simp at h_8
   try simp [h_4,h_8]
   rcases zad hp with ⟨h_9,hp⟩|⟨h_9,hp⟩
   ·try simp at h_9
    cases hp
    simp [Goal,FnEnd,h_4,h_8,h_9]
   ·try simp at h_9
    obtain ⟨e_10,h_11,hp⟩:=zaa hp
    have b_12:=at_lo h_11
    have b_13:=at_hi h_11
    try simp at b_12 b_13
    have c_14:=seg_at' h_11 0 1 (by decide) (ds:=[.sc (.int .i64 e_10)]) rfl
    try simp at c_14
    cases hp
    simp [Goal,FnEnd,h_4,h_8,h_9,b_12,b_13,c_14]
  ·try simp at h_8
   cases hp
   simp [Goal,FnEnd,h_4,h_8]
 ·try simp at h_4
  cases hp
  simp [Goal,FnEnd,h_4]
theorem pc103:PC Tryz.prog 103 C103:=pc_of (g:=g103) (zag _ g103_s.2.1 ⟨pc66,trivial⟩) (ent Tryz.func103) fun x y h=>w103 h

def C104:List AV→Option AV:=specP (X:=Int × Int × Unit) fun x=>zfe x.1 x.2.1
theorem C104_eq {a_ b_} {y} (h:zfe a_ b_=some y):C104 [av .shr a_,av .shr b_]=some (Res.res y):=zah (x:=(a_,b_,())) h
def g104:Cfg:={ P:=Tryz.prog,take:=[],keep:=[],gho:=[],ctx:=[(73,C73)] }
@[simp] theorem g104_s:type_of% (cfg_s (g:=g104) rfl):=cfg_s rfl
theorem w104 {a_ b_} {y} (hp:zfe a_ b_=some y):∃ m,callo g104 0 104 [av .shr a_,av .shr b_] mem0=some (Res.res y,m):=by
 refine st0 [.tmp 4] Tryz.func104 ?_
 unfold zfe at hp
 simp [Tryz.f104]
 rcases zad hp with ⟨h_1,hp⟩|⟨h_1,hp⟩
 ·try simp at h_1
  cases hp
  simp [Goal,FnEnd,h_1]
 ·try simp at h_1
  obtain ⟨y_2,h_3,hp⟩:=zaa hp
  have c_4:=zph h_3
  simp at c_4
  try simp [h_1,c_4]
  rcases zad hp with ⟨h_5,hp⟩|⟨h_5,hp⟩
  ·try simp at h_5
   cases hp
   simp [Goal,FnEnd,h_1,h_5]
  ·try simp at h_5
   cases hp
   simp [Goal,FnEnd,h_1,h_5]
theorem pc104:PC Tryz.prog 104 C104:=pc_of (g:=g104) (zag _ g104_s.2.1 ⟨pc73,trivial⟩) (ent Tryz.func104) fun x y h=>w104 h

def C61:List AV→Option AV:=specP (X:=TStructure × (List Int) × (List Int) × Unit) fun x=>zen x.1 x.2.1 x.2.2.1
theorem C61_eq {s a_ b_} {y} (h:zen s a_ b_=some y):C61 [av .shr s,av .shr a_,av .shr b_]=some (Res.res y):=zah (x:=(s,a_,b_,())) h
def g61:Cfg:={ P:=Tryz.prog,take:=[],keep:=[((61,3),{ hd:=[1,2,3,7,8],bx:=[],ex:=[7],rt:=[6] }),((61,6),{ hd:=[1,2,3,7,8,9],bx:=[],ex:=[1,2,3,7,8],rt:=[6] })],gho:=[],ctx:=[(103,C103),(104,C104)] }
@[simp] theorem g61_s:type_of% (cfg_s (g:=g61) rfl):=cfg_s rfl
theorem w61 {s a_ b_} {y} (hp:zen s a_ b_=some y):∃ m,callo g61 0 61 [av .shr s,av .shr a_,av .shr b_] mem0=some (Res.res y,m):=by
 refine st0 [.tmp 6] Tryz.func61 ?_
 unfold zen at hp
 obtain ⟨e_1,h_2,hp⟩:=zaa hp
 have b_4:=at_hi h_2
 try simp at b_4
 have c_5:=seg_at' h_2 0 1 (by decide) (ds:=[.sc (.int .i64 e_1)]) rfl
 try simp at c_5
 obtain ⟨e_6,h_7,hp⟩:=zaa hp
 have b_9:=at_hi h_7
 try simp at b_9
 have c_10:=seg_at' h_7 0 1 (by decide) (ds:=[.sc (.int .i64 e_6)]) rfl
 try simp at c_10
 obtain ⟨y_11,h_12,hp⟩:=zaa hp
 have c_13:=zlr h_12
 simp at c_13
 simp [Tryz.f61,b_4,c_5,b_9,c_10,c_13]
 obtain ⟨r_51,h_52,hp⟩:=zaa hp
 obtain ⟨I_16,I_16_⟩:=exV fun (s_14:Int × Int) (σ:St)=>(σ.env 1=uL .shr a_∧σ.env 2=uL .shr b_∧σ.env 3=uP (1,3)∧σ.env 7=uI s_14.1∧σ.env 8=uI s_14.2∧σ.mem (1,3)=some [cL .shr s.nodes,cL .shr s.next])∧NoBox [(1,3)] σ.mem
 obtain ⟨X_17,X_17_⟩:=exV fun (r_51:Int) (out:Out)=>∃ σ:St,out=.exit 0 σ∧(σ.env 7=uI r_51∧σ.mem (1,3)=some [cL .shr s.nodes,cL .shr s.next])∧NoBox [(1,3)] σ.mem
 refine loopP ({ hd:=[1,2,3,7,8],bx:=[],ex:=[7],rt:=[6] }) I_16 X_17 h_52 (by exact rfl) ?_ ?_ ?_
 ·rw [I_16_]
  exact ⟨by simp [zac,zab],NoBox.restrict (by intro k hk hb;simp at hk hb;simp [hk,hb])⟩
 ·intro s_14 σ_18 a_15 hI hp
  rw [I_16_] at hI
  obtain ⟨q_20,hn_19⟩:=hI
  try simp [q_20]
  rcases zad hp with ⟨h_21,hp⟩|⟨h_21,hp⟩
  ·try simp at h_21
   try simp [q_20,h_21]
   obtain ⟨r_46,h_47,hp⟩:=zaa hp
   obtain ⟨I_24,I_24_⟩:=exV fun (s_22:Int × Int) (σ:St)=>(σ.env 1=uL .shr a_∧σ.env 2=uL .shr b_∧σ.env 3=uP (1,3)∧σ.env 7=uI s_22.1∧σ.env 8=uI s_14.2∧σ.env 9=uI s_22.2∧σ.mem (1,3)=some [cL .shr s.nodes,cL .shr s.next])∧NoBox [(1,3)] σ.mem
   obtain ⟨X_25,X_25_⟩:=exV fun (r_46:Int) (out:Out)=>∃ σ:St,out=.exit 2 σ∧(σ.env 1=uL .shr a_∧σ.env 2=uL .shr b_∧σ.env 3=uP (1,3)∧σ.env 7=uI r_46∧σ.env 8=uI s_14.2∧σ.mem (1,3)=some [cL .shr s.nodes,cL .shr s.next])∧NoBox [(1,3)] σ.mem
   refine loopP ({ hd:=[1,2,3,7,8,9],bx:=[],ex:=[1,2,3,7,8],rt:=[6] }) I_24 X_25 h_47 (by exact rfl) ?_ ?_ ?_
   ·rw [I_24_]
    exact ⟨by simp [zac,zab,q_20,h_21],NoBox.restrict (by intro k hk hb;simp at hk hb;simp [hk,hb,q_20,h_21,hn_19 k (by simp [hk,hb])])⟩
   ·intro s_22 σ_26 a_23 hI hp
    rw [I_24_] at hI
    obtain ⟨q_28,hn_27⟩:=hI
    try simp [h_21,q_28]
    rcases zad hp with ⟨h_29,hp⟩|⟨h_29,hp⟩
    ·try simp at h_29
     obtain ⟨e_30,h_31,hp⟩:=zaa hp
     have b_32:=at_lo h_31
     have b_33:=at_hi h_31
     try simp at b_32 b_33
     have c_34:=seg_at' h_31 0 1 (by decide) (ds:=[.sc (.int .i64 e_30)]) rfl
     try simp at c_34
     obtain ⟨e_35,h_36,hp⟩:=zaa hp
     have b_37:=at_lo h_36
     have b_38:=at_hi h_36
     try simp at b_37 b_38
     have c_39:=seg_at' h_36 0 1 (by decide) (ds:=[.sc (.int .i64 e_35)]) rfl
     try simp at c_39
     obtain ⟨y_40,h_41,hp⟩:=zaa hp
     have c_42:=zlr h_41
     simp at c_42
     obtain ⟨y_43,h_44,hp⟩:=zaa hp
     have c_45:=C104_eq h_44
     simp at c_45
     cases hp
     try simp [h_21,q_28,h_29,b_32,b_33,c_34,b_37,b_38,c_39,c_42,c_45]
     refine zaf ?_
     rw [I_24_]
     exact ⟨by simp [zac,zab,h_21,q_28,h_29,b_32,b_33,c_34,b_37,b_38,c_39,c_42,c_45],NoBox.restrict (by intro k hk hb;simp at hk hb;simp [hk,hb,h_21,q_28,h_29,b_32,b_33,c_34,b_37,b_38,c_39,c_42,c_45,hn_27 k (by simp [hk,hb])])⟩
    ·try simp at h_29
     cases hp
     try simp [h_21,q_28,h_29]
     refine zai ?_
     rw [X_25_]
     exact ⟨_,rfl,by simp [zac,zab,h_21,q_28,h_29],NoBox.restrict (by intro k hk hb;simp at hk hb;simp [hk,hb,h_21,q_28,h_29,hn_27 k (by simp [hk,hb])])⟩
   ·intro out hX
    rw [X_25_] at hX
    obtain ⟨σ_48,rfl,q_50,hn_49⟩:=hX
    cases hp
    try simp [h_21,q_50]
    refine zaf ?_
    rw [I_16_]
    exact ⟨by simp [zac,zab,h_21,q_50],NoBox.restrict (by intro k hk hb;simp at hk hb;simp [hk,hb,h_21,q_50,hn_49 k (by simp [hk,hb])])⟩
  ·try simp at h_21
   cases hp
   try simp [q_20,h_21]
   refine zai ?_
   rw [X_17_]
   exact ⟨_,rfl,by simp [zac,zab,q_20,h_21],NoBox.restrict (by intro k hk hb;simp at hk hb;simp [hk,hb,q_20,h_21,hn_19 k (by simp [hk,hb])])⟩
 ·intro out hX
  rw [X_17_] at hX
  obtain ⟨σ_53,rfl,q_55,hn_54⟩:=hX
  cases hp
  simp [Goal,FnEnd,q_55]
theorem pc61:PC Tryz.prog 61 C61:=pc_of (g:=g61) (zag _ g61_s.2.1 ⟨pc103,pc104,trivial⟩) (ent Tryz.func61) fun x y h=>w61 h

def C25:List AV→Option AV:=specP (X:=TStructure × Unit) fun x=>zfn x.1
theorem C25_eq {s} {y} (h:zfn s=some y):C25 [av .shr s]=some (Res.res y):=zah (x:=(s,())) h
def g25:Cfg:={ P:=Tryz.prog,take:=[(25,29),(25,46),(25,60)],keep:=[((25,8),{ hd:=[1,2,3,4,5],bx:=[],ex:=[2,4],rt:=[2] }),((25,12),{ hd:=[1,2,3,4,5,6],bx:=[],ex:=[1,2,3,4,5],rt:=[2] })],gho:=[],ctx:=[(32,C32),(57,C57),(58,C58),(59,C59),(60,C60),(61,C61)] }
@[simp] theorem g25_s:type_of% (cfg_s (g:=g25) rfl):=cfg_s rfl
theorem w25 {s} {y} (hp:zfn s=some y):∃ m,callo g25 0 25 [av .shr s] mem0=some (Res.res y,m):=by
 refine st0 [.cell 2 32] Tryz.func25 ?_
 unfold zfn at hp
 simp [Tryz.f25]
 rcases zad hp with ⟨h_1,hp⟩|⟨h_1,hp⟩
 ·try simp at h_1
  cases hp
  simp [Goal,FnEnd,retR,rsrc,RSrc.val,nodupR,nodup,tupPart,h_1]
 ·try simp at h_1
  obtain ⟨y_2,h_3,hp⟩:=zaa hp
  have c_4:=C57_eq h_3
  simp at c_4
  obtain ⟨y_5,h_6,hp⟩:=zaa hp
  have c_7:=C32_eq h_6
  simp at c_7
  try simp [h_1,c_4,c_7]
  rcases zad hp with ⟨h_8,hp⟩|⟨h_8,hp⟩
  ·try simp at h_8
   obtain ⟨y_9,h_10,hp⟩:=zaa hp
   have c_11:=C59_eq h_10
   simp at c_11
   try simp [h_1,h_8,c_11]
   obtain ⟨r_58,h_59,hp⟩:=zaa hp
   obtain ⟨I_14,I_14_⟩:=exV fun (s_12:Int × (List TNode) × (List Int)) (σ:St)=>(σ.env 1=uP (1,1)∧σ.env 2=uP (1,2)∧σ.env 3=uL .shr y_9∧σ.env 4=uP (1,4)∧σ.env 5=uI s_12.1∧σ.mem (1,1)=some [cL .shr s.nodes,cL .shr s.next]∧σ.mem (1,2)=some [.l .own 0 [],.l .own 0 []]∧σ.mem (1,4)=some [cL .own s_12.2.1,cL .own s_12.2.2])∧NoBox [(1,1),(1,2),(1,4)] σ.mem
   obtain ⟨X_15,X_15_⟩:=exV fun (r_58:(List TNode) × (List Int)) (out:Out)=>∃ σ:St,out=.exit 0 σ∧(σ.env 2=uP (1,2)∧σ.env 4=uP (1,4)∧σ.mem (1,1)=some [cL .shr s.nodes,cL .shr s.next]∧σ.mem (1,2)=some [.l .own 0 [],.l .own 0 []]∧σ.mem (1,4)=some [cL .own r_58.1,cL .own r_58.2])∧NoBox [(1,1),(1,2),(1,4)] σ.mem
   refine loopP ({ hd:=[1,2,3,4,5],bx:=[],ex:=[2,4],rt:=[2] }) I_14 X_15 h_59 (by exact rfl) ?_ ?_ ?_
   ·rw [I_14_]
    exact ⟨by simp [zac,zab,h_1,h_8],NoBox.restrict (by intro k hk hb;simp at hk hb;simp [hk,hb,h_1,h_8])⟩
   ·intro s_12 σ_16 a_13 hI hp
    rw [I_14_] at hI
    obtain ⟨q_18,hn_17⟩:=hI
    try simp [h_1,h_8,q_18]
    rcases zad hp with ⟨h_19,hp⟩|⟨h_19,hp⟩
    ·try simp at h_19
     obtain ⟨e_20,h_21,hp⟩:=zaa hp
     have b_22:=at_lo h_21
     have b_23:=at_hi h_21
     try simp at b_22 b_23
     have c_24:=seg_at' h_21 0 1 (by decide) (ds:=[.sl e_20.length (encL e_20)]) rfl
     try simp at c_24
     obtain ⟨y_25,h_26,hp⟩:=zaa hp
     have c_27:=C60_eq h_26
     simp at c_27
     obtain ⟨_,h_28,hp⟩:=zaa hp
     have b_29:=zbc h_28
     try simp at b_29
     try simp [h_1,h_8,q_18,h_19,b_22,b_23,c_24,c_27,b_29]
     obtain ⟨r_53,h_54,hp⟩:=zaa hp
     obtain ⟨I_32,I_32_⟩:=exV fun (s_30:Int × (List Int)) (σ:St)=>(σ.env 1=uP (1,1)∧σ.env 2=uP (1,2)∧σ.env 3=uL .shr y_9∧σ.env 4=uP (1,4)∧σ.env 5=uI s_12.1∧σ.env 6=uI s_30.1∧σ.mem (1,1)=some [cL .shr s.nodes,cL .shr s.next]∧σ.mem (1,2)=some [.l .own 0 [],.l .own 0 []]∧σ.mem (1,4)=some [cL .own (s_12.2.1 ++ [y_25]),cL .own s_30.2])∧NoBox [(1,1),(1,2),(1,4)] σ.mem
     obtain ⟨X_33,X_33_⟩:=exV fun (r_53:(List Int)) (out:Out)=>∃ σ:St,out=.exit 2 σ∧(σ.env 1=uP (1,1)∧σ.env 2=uP (1,2)∧σ.env 3=uL .shr y_9∧σ.env 4=uP (1,4)∧σ.env 5=uI s_12.1∧σ.mem (1,1)=some [cL .shr s.nodes,cL .shr s.next]∧σ.mem (1,2)=some [.l .own 0 [],.l .own 0 []]∧σ.mem (1,4)=some [cL .own (s_12.2.1 ++ [y_25]),cL .own r_53])∧NoBox [(1,1),(1,2),(1,4)] σ.mem
     refine loopP ({ hd:=[1,2,3,4,5,6],bx:=[],ex:=[1,2,3,4,5],rt:=[2] }) I_32 X_33 h_54 (by exact rfl) ?_ ?_ ?_
     ·rw [I_32_]
      exact ⟨by simp [zac,zab,h_1,h_8,q_18,h_19],NoBox.restrict (by intro k hk hb;simp at hk hb;simp [hk,hb,h_1,h_8,q_18,h_19,hn_17 k (by simp [hk,hb])])⟩
     ·intro s_30 σ_34 a_31 hI hp
      rw [I_32_] at hI
      obtain ⟨q_36,hn_35⟩:=hI
      try simp [h_1,h_8,h_19,q_36]
      rcases zad hp with ⟨h_37,hp⟩|⟨h_37,hp⟩
      ·try simp at h_37
       obtain ⟨e_38,h_39,hp⟩:=zaa hp
       cases Option.some.inj (h_21.symm.trans h_39)
       have b_40:=at_lo h_21
       have b_41:=at_hi h_21
       try simp at b_40 b_41
       have c_42:=seg_at' h_21 0 1 (by decide) (ds:=[.sl e_20.length (encL e_20)]) rfl
       try simp at c_42
       obtain ⟨e_43,h_44,hp⟩:=zaa hp
       have b_45:=at_lo h_44
       have b_46:=at_hi h_44
       try simp at b_45 b_46
       have c_47:=seg_at' h_44 0 1 (by decide) (ds:=[.sl e_43.length (encL e_43)]) rfl
       try simp at c_47
       obtain ⟨y_48,h_49,hp⟩:=zaa hp
       have c_50:=C61_eq h_49
       simp at c_50
       obtain ⟨_,h_51,hp⟩:=zaa hp
       have b_52:=zbc h_51
       try simp at b_52
       cases hp
       try simp [h_1,h_8,h_19,q_36,h_37,b_40,b_41,c_42,b_45,b_46,c_47,c_50,b_52]
       refine zaf ?_
       rw [I_32_]
       exact ⟨by simp [zac,zab,h_1,h_8,h_19,q_36,h_37,b_40,b_41,c_42,b_45,b_46,c_47,c_50,b_52],NoBox.restrict (by intro k hk hb;simp at hk hb;simp [hk,hb,h_1,h_8,h_19,q_36,h_37,b_40,b_41,c_42,b_45,b_46,c_47,c_50,b_52,hn_35 k (by simp [hk,hb])])⟩
      ·try simp at h_37
       cases hp
       try simp [h_1,h_8,h_19,q_36,h_37]
       refine zai ?_
       rw [X_33_]
       exact ⟨_,rfl,by simp [zac,zab,h_1,h_8,h_19,q_36,h_37],NoBox.restrict (by intro k hk hb;simp at hk hb;simp [hk,hb,h_1,h_8,h_19,q_36,h_37,hn_35 k (by simp [hk,hb])])⟩
     ·intro out hX
      rw [X_33_] at hX
      obtain ⟨σ_55,rfl,q_57,hn_56⟩:=hX
      cases hp
      try simp [h_1,h_8,h_19,q_57]
      refine zaf ?_
      rw [I_14_]
      exact ⟨by simp [zac,zab,h_1,h_8,h_19,q_57],NoBox.restrict (by intro k hk hb;simp at hk hb;simp [hk,hb,h_1,h_8,h_19,q_57,hn_56 k (by simp [hk,hb])])⟩
    ·try simp at h_19
     cases hp
     try simp [h_1,h_8,q_18,h_19]
     refine zai ?_
     rw [X_15_]
     exact ⟨_,rfl,by simp [zac,zab,h_1,h_8,q_18,h_19],NoBox.restrict (by intro k hk hb;simp at hk hb;simp [hk,hb,h_1,h_8,q_18,h_19,hn_17 k (by simp [hk,hb])])⟩
   ·intro out hX
    rw [X_15_] at hX
    obtain ⟨σ_60,rfl,q_62,hn_61⟩:=hX
    cases hp
    simp [Goal,FnEnd,retR,rsrc,RSrc.val,nodupR,nodup,tupPart,h_1,h_8,q_62]
  ·try simp at h_8
   obtain ⟨y_63,h_64,hp⟩:=zaa hp
   have c_65:=C58_eq h_64
   simp at c_65
   cases hp
   simp [Goal,FnEnd,retR,rsrc,RSrc.val,nodupR,nodup,tupPart,h_1,h_8,c_65]
theorem pc25:PC Tryz.prog 25 C25:=pc_of (g:=g25) (zag _ g25_s.2.1 ⟨pc32,pc57,pc58,pc59,pc60,pc61,trivial⟩) (ent Tryz.func25) fun x y h=>w25 h

def C82:List C→List AV→Option (AV × List C):=specX (T:=TL1Cur) (X:=Unit) (R:=(Int)) fun x t=>zdb t
theorem C82_eq {c} {y} (h:zdb c=some y):C82 (bxT c) []=some (Res.res y.1,bxT y.2):=zht (T:=TL1Cur) (X:=Unit) (R:=(Int)) (F:=fun x t=>zdb t ) (x:=(())) h
def g82:Cfg:={ P:=Tryz.prog,take:=[],keep:=[],gho:=[],ctx:=[] }
@[simp] theorem g82_s:type_of% (cfg_s (g:=g82) rfl):=cfg_s rfl
theorem w82 {c} {mem:Mem} (hT:Tight 0 mem) (hq0:mem (0,0)=some [cL .shr c.b,cI c.i,cI c.h]) (hn0:NoBox [(0,0)] mem) {y} (hp:zdb c=some y):∃ m,callo g82 0 82 [.one (.ptr (0,0) 0)] mem=some (Res.res y.1,m)∧(m (0,0)=some [cL .shr y.2.b,cI y.2.i,cI y.2.h]∧Tight 0 m∧NoBox [(0,0)] m):=by
 refine stD [.tmp 2] Tryz.func82 fun QV QV_=>?_
 unfold zdb at hp
 simp [Tryz.f82,hq0]
 rcases zad hp with ⟨h_1,hp⟩|⟨h_1,hp⟩
 ·try simp at h_1
  obtain ⟨e_2,h_3,hp⟩:=zaa hp
  have b_4:=at_lo h_3
  have b_5:=at_hi h_3
  try simp at b_4 b_5
  have c_6:=seg_at' h_3 0 1 (by decide) (ds:=[.sc (.int .u8 e_2.v)]) rfl
  try simp at c_6
  cases hp
  simp [Goal,FnEndD,retR,rsrc,RSrc.val,nodupR,nodup,tupPart,hq0,h_1,b_4,b_5,c_6,zpd Tryz.underlying5 Tryz.underlying3]
  rw [QV_]
  exact ⟨by simp [hq0,h_1,b_4,b_5,c_6,zpd Tryz.underlying5 Tryz.underlying3],zbg _ _,zbi (L':=[(0,0)]) (by intro k hk;simp at hk;simp [hk,hq0,h_1,b_4,b_5,c_6,zpd Tryz.underlying5 Tryz.underlying3,hn0 k (by simp [hk])]) (by simp)⟩
 ·try simp at h_1
  cases hp
  simp [Goal,FnEndD,retR,rsrc,RSrc.val,nodupR,nodup,tupPart,hq0,h_1]
  rw [QV_]
  exact ⟨by simp [hq0,h_1],zbg _ _,zbi (L':=[(0,0)]) (by intro k hk;simp at hk;simp [hk,hq0,h_1,hn0 k (by simp [hk])]) (by simp)⟩
theorem px82:PX Tryz.prog 82 C82:=px_of (g:=g82) (zag [] rfl trivial) (ent Tryz.func82) fun x t y h=>by
 obtain ⟨m,h1,h2,_,h3⟩:=w82 (mem:=upd mem0 (0,0) (some (bxT t))) (Tight.upd (zap _) (by simp) (by simp)) (by simp [upd,bxT]) (zgi _ _) h
 exact ⟨m,h1,h2,h3⟩

def C41:List C→List AV→Option (AV × List C):=specX (T:=TL1Cur) (X:=Int × Unit) (R:=(Int)) fun x t=>zaj t x.1
theorem zfh {c n_} {y} (h:zaj c n_=some y):C41 (bxT c) [av .shr n_]=some (Res.res y.1,bxT y.2):=zht (T:=TL1Cur) (X:=Int × Unit) (R:=(Int)) (F:=fun x t=>zaj t x.1) (x:=(n_,())) h
def g41:Cfg:={ P:=Tryz.prog,take:=[],keep:=[],gho:=[],ctx:=[],pctx:=[(82,C82)] }
@[simp] theorem g41_s:type_of% (cfg_s (g:=g41) rfl):=cfg_s rfl
theorem zns:PxOK g41 82 C82:=⟨rfl,rfl,Tryz.f82,Tryz.f82.body.getD .skip,Tryz.func82,by kernel_rfl⟩
theorem w41 {c n_} {mem:Mem} (hT:Tight 0 mem) (hq0:mem (0,0)=some [cL .shr c.b,cI c.i,cI c.h]) (hn0:NoBox [(0,0)] mem) {y} (hp:zaj c n_=some y):∃ m,callo g41 0 41 [.one (.ptr (0,0) 0),av .shr n_] mem=some (Res.res y.1,m)∧(m (0,0)=some [cL .shr y.2.b,cI y.2.i,cI y.2.h]∧Tight 0 m∧NoBox [(0,0)] m):=by
 refine stD [.tmp 4] Tryz.func41 fun QV QV_=>?_
 unfold zaj at hp
 simp [Tryz.f41,hq0]
 rcases zad hp with ⟨h_1,hp⟩|⟨h_1,hp⟩
 ·try simp at h_1
  cases hp
  simp [Goal,FnEndD,retR,rsrc,RSrc.val,nodupR,nodup,tupPart,hq0,h_1]
  rw [QV_]
  exact ⟨by simp [hq0,h_1],zbg _ _,zbi (L':=[(0,0)]) (by intro k hk;simp at hk;simp [hk,hq0,h_1,hn0 k (by simp [hk])]) (by simp)⟩
 ·try simp at h_1
  try simp [hq0,h_1]
  rcases zad hp with ⟨h_2,hp⟩|⟨h_2,hp⟩
  ·try simp at h_2
   obtain ⟨y_3,h_4,hp⟩:=zaa hp
   try simp [hq0,h_1,h_2]
   refine zal (0,0) (C82_eq h_4) zns (by simp [hq0,h_1,h_2]) (by simp) (by simp [hq0,h_1,h_2]) (.inr (by decide)) ?_
   obtain ⟨z_5,h_6,hp⟩:=zaa hp
   have c_7:=fun t x y=>tb_rem Tryz.prog t x y h_6
   cases hp
   simp [Goal,FnEndD,retR,rsrc,RSrc.val,nodupR,nodup,tupPart,hq0,h_1,h_2,c_7]
   rw [QV_]
   exact ⟨by simp [hq0,h_1,h_2,c_7],zbg _ _,zbi (L':=[(0,0)]) (by intro k hk;simp at hk;simp [hk,hq0,h_1,h_2,c_7,hn0 k (by simp [hk])]) (by simp)⟩
  ·try simp at h_2
   obtain ⟨y_8,h_9,hp⟩:=zaa hp
   try simp [hq0,h_1,h_2]
   refine zal (0,0) (C82_eq h_9) zns (by simp [hq0,h_1,h_2]) (by simp) (by simp [hq0,h_1,h_2]) (.inr (by decide)) ?_
   obtain ⟨y_10,h_11,hp⟩:=zaa hp
   try simp [hq0,h_1,h_2]
   refine zal (0,0) (C82_eq h_11) zns (by simp [hq0,h_1,h_2]) (by simp) (by simp [hq0,h_1,h_2]) (.inr (by decide)) ?_
   obtain ⟨y_12,h_13,hp⟩:=zaa hp
   try simp [hq0,h_1,h_2]
   refine zal (0,0) (C82_eq h_13) zns (by simp [hq0,h_1,h_2]) (by simp) (by simp [hq0,h_1,h_2]) (.inr (by decide)) ?_
   obtain ⟨y_14,h_15,hp⟩:=zaa hp
   try simp [hq0,h_1,h_2]
   refine zal (0,0) (C82_eq h_15) zns (by simp [hq0,h_1,h_2]) (by simp) (by simp [hq0,h_1,h_2]) (.inr (by decide)) ?_
   obtain ⟨z_16,h_17,hp⟩:=zaa hp
   have c_18:=fun t x y=>tb_rem Tryz.prog t x y h_17
   cases hp
   simp [Goal,FnEndD,retR,rsrc,RSrc.val,nodupR,nodup,tupPart,hq0,h_1,h_2,c_18]
   rw [QV_]
   exact ⟨by simp [hq0,h_1,h_2,c_18],zbg _ _,zbi (L':=[(0,0)]) (by intro k hk;simp at hk;simp [hk,hq0,h_1,h_2,c_18,hn0 k (by simp [hk])]) (by simp)⟩
theorem px41:PX Tryz.prog 41 C41:=px_of (g:=g41) (zfp [] rfl trivial [] rfl trivial [] rfl trivial [(82,C82)] rfl ⟨px82,trivial⟩) (ent Tryz.func41) fun x t y h=>by
 obtain ⟨m,h1,h2,_,h3⟩:=w41 (mem:=upd mem0 (0,0) (some (bxT t))) (Tight.upd (zap _) (by simp) (by simp)) (by simp [upd,bxT]) (zgi _ _) h
 exact ⟨m,h1,h2,h3⟩

def C116:List C→List AV→Option (AV × List C):=specX (T:=TL1Cur) (X:=Int × Unit) (R:=(Bool)) fun x t=>zdz t x.1
theorem C116_eq {c n_} {y} (h:zdz c n_=some y):C116 (bxT c) [av .shr n_]=some (Res.res y.1,bxT y.2):=zht (T:=TL1Cur) (X:=Int × Unit) (R:=(Bool)) (F:=fun x t=>zdz t x.1) (x:=(n_,())) h
def g116:Cfg:={ P:=Tryz.prog,take:=[],keep:=[],gho:=[],ctx:=[],pctx:=[(41,C41)] }
@[simp] theorem g116_s:type_of% (cfg_s (g:=g116) rfl):=cfg_s rfl
theorem g116_x41:PxOK g116 41 C41:=⟨rfl,rfl,Tryz.f41,Tryz.f41.body.getD .skip,Tryz.func41,by kernel_rfl⟩
theorem w116 {c n_} {mem:Mem} (hT:Tight 0 mem) (hq0:mem (0,0)=some [cL .shr c.b,cI c.i,cI c.h]) (hn0:NoBox [(0,0)] mem) {y} (hp:zdz c n_=some y):∃ m,callo g116 0 116 [.one (.ptr (0,0) 0),av .shr n_] mem=some (Res.res y.1,m)∧(m (0,0)=some [cL .shr y.2.b,cI y.2.i,cI y.2.h]∧Tight 0 m∧NoBox [(0,0)] m):=by
 refine stD [.tmp 4] Tryz.func116 fun QV QV_=>?_
 unfold zdz at hp
 obtain ⟨y_1,h_2,hp⟩:=zaa hp
 simp [Tryz.f116,hq0]
 refine zal (0,0) (zfh h_2) g116_x41 (by simp [hq0]) (by simp) (by simp [hq0]) (.inr (by decide)) ?_
 cases hp
 simp [Goal,FnEndD,retR,rsrc,RSrc.val,nodupR,nodup,tupPart,hq0]
 rw [QV_]
 exact ⟨by simp [hq0],zbg _ _,zbi (L':=[(0,0)]) (by intro k hk;simp at hk;simp [hk,hq0,hn0 k (by simp [hk])]) (by simp)⟩
theorem px116:PX Tryz.prog 116 C116:=px_of (g:=g116) (zfp [] rfl trivial [] rfl trivial [] rfl trivial [(41,C41)] rfl ⟨px41,trivial⟩) (ent Tryz.func116) fun x t y h=>by
 obtain ⟨m,h1,h2,_,h3⟩:=w116 (mem:=upd mem0 (0,0) (some (bxT t))) (Tight.upd (zap _) (by simp) (by simp)) (by simp [upd,bxT]) (zgi _ _) h
 exact ⟨m,h1,h2,h3⟩

def C79:List C→List AV→Option (AV × List C):=specX (T:=TL1Cur) (X:=Int × Unit) (R:=(THeap)) fun x t=>zeq t x.1
theorem C79_eq {c vars} {y} (h:zeq c vars=some y):C79 (bxT c) [av .shr vars]=some (Res.res y.1,bxT y.2):=zht (T:=TL1Cur) (X:=Int × Unit) (R:=(THeap)) (F:=fun x t=>zeq t x.1) (x:=(vars,())) h
def g79:Cfg:={ P:=Tryz.prog,take:=[(79,29),(79,53)],keep:=[((79,4),{ hd:=[0,1,4,5,6,7],bx:=[],ex:=[0,1,4,5,6],rt:=[4] }),((79,11),{ hd:=[0,1,4,5,6,9],bx:=[],ex:=[4,5],rt:=[4] })],gho:=[],ctx:=[(117,C117)],pctx:=[(41,C41),(116,C116)] }
@[simp] theorem g79_s:type_of% (cfg_s (g:=g79) rfl):=cfg_s rfl
theorem g79_x41:PxOK g79 41 C41:=⟨rfl,rfl,Tryz.f41,Tryz.f41.body.getD .skip,Tryz.func41,by kernel_rfl⟩
theorem g79_x116:PxOK g79 116 C116:=⟨rfl,rfl,Tryz.f116,Tryz.f116.body.getD .skip,Tryz.func116,by kernel_rfl⟩
theorem w79 {c vars} {mem:Mem} (hT:Tight 0 mem) (hq0:mem (0,0)=some [cL .shr c.b,cI c.i,cI c.h]) (hn0:NoBox [(0,0)] mem) {y} (hp:zeq c vars=some y):∃ m,callo g79 0 79 [.one (.ptr (0,0) 0),av .shr vars] mem=some (Res.res y.1,m)∧(m (0,0)=some [cL .shr y.2.b,cI y.2.i,cI y.2.h]∧Tight 0 m∧NoBox [(0,0)] m):=by
 refine stD [.cell 4 36] Tryz.func79 fun QV QV_=>?_
 unfold zeq at hp
 have n_1:=hn0 (1,4) (by simp)
 have n_2:=hn0 (1,5) (by simp)
 obtain ⟨y_3,h_4,hp⟩:=zaa hp
 simp [Tryz.f79,hq0,n_1,n_2]
 refine zal (0,0) (zfh h_4) g79_x41 (by simp [hq0]) (by simp) (by simp [hq0]) (.inr (by decide)) ?_
 try simp [hq0]
 obtain ⟨r_22,h_23,hp⟩:=zaa hp
 obtain ⟨I_7,I_7_⟩:=exV fun (s_5:Int × (List U8) × Int × Int × (List Int)) (σ:St)=>(σ.env 0=uP (0,0)∧σ.env 1=uI vars∧σ.env 4=uP (1,4)∧σ.env 5=uP (1,5)∧σ.env 6=uI y_3.1∧σ.env 7=uI s_5.1∧σ.mem (0,0)=some [cL .shr s_5.2.1,cI s_5.2.2.1,cI s_5.2.2.2.1]∧σ.mem (1,4)=some [.l .own 0 [],.l .own 0 []]∧σ.mem (1,5)=some [.l .own 0 [],cL .own s_5.2.2.2.2])∧NoBox [(0,0),(1,4),(1,5)] σ.mem
 obtain ⟨X_8,X_8_⟩:=exV fun (r_22:(List U8) × Int × Int × (List Int)) (out:Out)=>∃ σ:St,out=.exit 0 σ∧(σ.env 0=uP (0,0)∧σ.env 1=uI vars∧σ.env 4=uP (1,4)∧σ.env 5=uP (1,5)∧σ.env 6=uI y_3.1∧σ.mem (0,0)=some [cL .shr r_22.1,cI r_22.2.1,cI r_22.2.2.1]∧σ.mem (1,4)=some [.l .own 0 [],.l .own 0 []]∧σ.mem (1,5)=some [.l .own 0 [],cL .own r_22.2.2.2])∧NoBox [(0,0),(1,4),(1,5)] σ.mem
 refine loopP ({ hd:=[0,1,4,5,6,7],bx:=[],ex:=[0,1,4,5,6],rt:=[4] }) I_7 X_8 h_23 (by exact rfl) ?_ ?_ ?_
 ·rw [I_7_]
  exact ⟨by simp [zac,zab,hq0],NoBox.restrict (by intro k hk hb;simp at hk hb;simp [hk,hb,hq0,hn0 k (by simp [hk,hb])])⟩
 ·intro s_5 σ_9 a_6 hI hp
  rw [I_7_] at hI
  obtain ⟨q_11,hn_10⟩:=hI
  try simp [hq0,q_11]
  rcases zad hp with ⟨h_12,hp⟩|⟨h_12,hp⟩
  ·try simp at h_12
   obtain ⟨y_13,h_14,hp⟩:=zaa hp
   try simp [hq0,q_11,h_12]
   refine zal (0,0) (C116_eq h_14) g79_x116 (by simp [hq0,q_11,h_12]) (by simp) (by simp [hq0,q_11,h_12]) (.inr (by decide)) ?_
   try simp [hq0,q_11,h_12]
   rcases zad hp with ⟨h_15,hp⟩|⟨h_15,hp⟩
   ·try simp at h_15
    obtain ⟨y_16,h_17,hp⟩:=zaa hp
    try simp [hq0,q_11,h_12,h_15]
    refine zal (0,0) (zfh h_17) g79_x41 (by simp [hq0,q_11,h_12,h_15]) (by simp) (by simp [hq0,q_11,h_12,h_15]) (.inr (by decide)) ?_
    obtain ⟨_,h_18,hp⟩:=zaa hp
    have b_19:=zbc h_18
    try simp at b_19
    cases hp
    try simp [hq0,q_11,h_12,h_15,b_19]
    refine zaf ?_
    rw [I_7_]
    exact ⟨by simp [zac,zab,hq0,q_11,h_12,h_15,b_19],NoBox.restrict (by intro k hk hb;simp at hk hb;simp [hk,hb,hq0,q_11,h_12,h_15,b_19,hn_10 k (by simp [hk,hb])])⟩
   ·try simp at h_15
    obtain ⟨_,h_20,hp⟩:=zaa hp
    have b_21:=zbc h_20
    try simp at b_21
    cases hp
    try simp [hq0,q_11,h_12,h_15,b_21]
    refine zaf ?_
    rw [I_7_]
    exact ⟨by simp [zac,zab,hq0,q_11,h_12,h_15,b_21],NoBox.restrict (by intro k hk hb;simp at hk hb;simp [hk,hb,hq0,q_11,h_12,h_15,b_21,hn_10 k (by simp [hk,hb])])⟩
  ·try simp at h_12
   cases hp
   try simp [hq0,q_11,h_12]
   refine zai ?_
   rw [X_8_]
   exact ⟨_,rfl,by simp [zac,zab,hq0,q_11,h_12],NoBox.restrict (by intro k hk hb;simp at hk hb;simp [hk,hb,hq0,q_11,h_12,hn_10 k (by simp [hk,hb])])⟩
 ·intro out hX
  rw [X_8_] at hX
  obtain ⟨σ_24,rfl,q_26,hn_25⟩:=hX
  try simp [hq0,q_26]
  obtain ⟨r_47,h_48,hp⟩:=zaa hp
  obtain ⟨I_29,I_29_⟩:=exV fun (s_27:Int × (List U8) × Int × Int × (List Int)) (σ:St)=>(σ.env 0=uP (0,0)∧σ.env 1=uI vars∧σ.env 4=uP (1,4)∧σ.env 5=uP (1,5)∧σ.env 6=uI y_3.1∧σ.env 9=uI s_27.1∧σ.mem (0,0)=some [cL .shr s_27.2.1,cI s_27.2.2.1,cI s_27.2.2.2.1]∧σ.mem (1,4)=some [.l .own 0 [],.l .own 0 []]∧σ.mem (1,5)=some [cL .own s_27.2.2.2.2,cL .own r_22.2.2.2])∧NoBox [(0,0),(1,4),(1,5)] σ.mem
  obtain ⟨X_30,X_30_⟩:=exV fun (r_47:(List U8) × Int × Int × (List Int)) (out:Out)=>∃ σ:St,out=.exit 2 σ∧(σ.env 4=uP (1,4)∧σ.env 5=uP (1,5)∧σ.mem (0,0)=some [cL .shr r_47.1,cI r_47.2.1,cI r_47.2.2.1]∧σ.mem (1,4)=some [.l .own 0 [],.l .own 0 []]∧σ.mem (1,5)=some [cL .own r_47.2.2.2,cL .own r_22.2.2.2])∧NoBox [(0,0),(1,4),(1,5)] σ.mem
  refine loopP ({ hd:=[0,1,4,5,6,9],bx:=[],ex:=[4,5],rt:=[4] }) I_29 X_30 h_48 (by exact rfl) ?_ ?_ ?_
  ·rw [I_29_]
   exact ⟨by simp [zac,zab,hq0,q_26],NoBox.restrict (by intro k hk hb;simp at hk hb;simp [hk,hb,hq0,q_26,hn_25 k (by simp [hk,hb])])⟩
  ·intro s_27 σ_31 a_28 hI hp
   rw [I_29_] at hI
   obtain ⟨q_33,hn_32⟩:=hI
   try simp [hq0,q_33]
   rcases zad hp with ⟨h_34,hp⟩|⟨h_34,hp⟩
   ·try simp at h_34
    obtain ⟨y_35,h_36,hp⟩:=zaa hp
    try simp [hq0,q_33,h_34]
    refine zal (0,0) (zfh h_36) g79_x41 (by simp [hq0,q_33,h_34]) (by simp) (by simp [hq0,q_33,h_34]) (.inr (by decide)) ?_
    try simp [hq0,q_33,h_34]
    rcases zad hp with ⟨h_37,hp⟩|⟨h_37,hp⟩
    ·try simp at h_37
     obtain ⟨y_38,h_39,hp⟩:=zaa hp
     try simp [hq0,q_33,h_34,h_37]
     refine zal (0,0) (C116_eq h_39) g79_x116 (by simp [hq0,q_33,h_34,h_37]) (by simp) (by simp [hq0,q_33,h_34,h_37]) (.inr (by decide)) ?_
     try simp [hq0,q_33,h_34,h_37]
     rcases zad hp with ⟨h_40,hp⟩|⟨h_40,hp⟩
     ·try simp at h_40
      obtain ⟨_,h_41,hp⟩:=zaa hp
      have b_42:=zbc h_41
      try simp at b_42
      cases hp
      try simp [hq0,q_33,h_34,h_37,h_40,b_42]
      refine zaf ?_
      rw [I_29_]
      exact ⟨by simp [zac,zab,hq0,q_33,h_34,h_37,h_40,b_42],NoBox.restrict (by intro k hk hb;simp at hk hb;simp [hk,hb,hq0,q_33,h_34,h_37,h_40,b_42,hn_32 k (by simp [hk,hb])])⟩
     ·try simp at h_40
      obtain ⟨_,h_43,hp⟩:=zaa hp
      have b_44:=zbc h_43
      try simp at b_44
      cases hp
      try simp [hq0,q_33,h_34,h_37,h_40,b_44]
      refine zaf ?_
      rw [I_29_]
      exact ⟨by simp [zac,zab,hq0,q_33,h_34,h_37,h_40,b_44],NoBox.restrict (by intro k hk hb;simp at hk hb;simp [hk,hb,hq0,q_33,h_34,h_37,h_40,b_44,hn_32 k (by simp [hk,hb])])⟩
    ·try simp at h_37
     obtain ⟨_,h_45,hp⟩:=zaa hp
     have b_46:=zbc h_45
     try simp at b_46
     cases hp
     try simp [hq0,q_33,h_34,h_37,b_46]
     refine zaf ?_
     rw [I_29_]
     exact ⟨by simp [zac,zab,hq0,q_33,h_34,h_37,b_46],NoBox.restrict (by intro k hk hb;simp at hk hb;simp [hk,hb,hq0,q_33,h_34,h_37,b_46,hn_32 k (by simp [hk,hb])])⟩
   ·try simp at h_34
    cases hp
    try simp [hq0,q_33,h_34]
    refine zai ?_
    rw [X_30_]
    exact ⟨_,rfl,by simp [zac,zab,hq0,q_33,h_34],NoBox.restrict (by intro k hk hb;simp at hk hb;simp [hk,hb,hq0,q_33,h_34,hn_32 k (by simp [hk,hb])])⟩
  ·intro out hX
   rw [X_30_] at hX
   obtain ⟨σ_49,rfl,q_51,hn_50⟩:=hX
   obtain ⟨y_52,h_53,hp⟩:=zaa hp
   have c_54:=C117_eq h_53
   simp at c_54
   cases hp
   simp [Goal,FnEndD,retR,rsrc,RSrc.val,nodupR,nodup,tupPart,hq0,q_51,c_54]
   rw [QV_]
   exact ⟨by simp [hq0,q_51,c_54],zbg _ _,zbi (L':=[(0,0),(1,4),(1,5)]) (by intro k hk;simp at hk;simp [hk,hq0,q_51,c_54,hn_50 k (by simp [hk])]) (by simp)⟩
theorem px79:PX Tryz.prog 79 C79:=px_of (g:=g79) (zfp [(117,C117)] rfl ⟨pc117,trivial⟩ [] rfl trivial [] rfl trivial [(41,C41),(116,C116)] rfl ⟨px41,px116,trivial⟩) (ent Tryz.func79) fun x t y h=>by
 obtain ⟨m,h1,h2,_,h3⟩:=w79 (mem:=upd mem0 (0,0) (some (bxT t))) (Tight.upd (zap _) (by simp) (by simp)) (by simp [upd,bxT]) (zgi _ _) h
 exact ⟨m,h1,h2,h3⟩

def C89:List C→List AV→Option (AV × List C):=specX (T:=TL1Cur) (X:=Int × Unit) (R:=(TStructure)) fun x t=>zeo t x.1
theorem C89_eq {c vars} {y} (h:zeo c vars=some y):C89 (bxT c) [av .shr vars]=some (Res.res y.1,bxT y.2):=zht (T:=TL1Cur) (X:=Int × Unit) (R:=(TStructure)) (F:=fun x t=>zeo t x.1) (x:=(vars,())) h
def g89:Cfg:={ P:=Tryz.prog,take:=[(89,67)],keep:=[((89,6),{ hd:=[0,1,4,5,6,7],bx:=[],ex:=[4,5],rt:=[4] })],gho:=[((89,11),[.thaw (.at 5 0) 1080 4,.thaw (.ixk (1,1080) 8 4 1) 108641 1]),((89,13),[.thaw (.at 5 0) 1080 4]),((89,15),[.thaw (.at 5 1) 1081 1]),((89,2000011),[.frz (.ixk (1,1080) 8 4 1),.frz (.at 5 0)]),((89,2000013),[.frz (.at 5 0)]),((89,2000015),[.frz (.at 5 1)])],ctx:=[(25,C25),(45,C45)],away:=[(89,41,4000000),(89,45,4000000),(89,60,4000000)],pctx:=[(41,C41),(79,C79),(116,C116)] }
@[simp] theorem g89_s:type_of% (cfg_s (g:=g89) rfl):=cfg_s rfl
theorem zhh:PxOK g89 41 C41:=⟨rfl,rfl,Tryz.f41,Tryz.f41.body.getD .skip,Tryz.func41,by kernel_rfl⟩
theorem g89_x79:PxOK g89 79 C79:=⟨rfl,rfl,Tryz.f79,Tryz.f79.body.getD .skip,Tryz.func79,by kernel_rfl⟩
theorem g89_x116:PxOK g89 116 C116:=⟨rfl,rfl,Tryz.f116,Tryz.f116.body.getD .skip,Tryz.func116,by kernel_rfl⟩
@[simp] theorem g89_wa (d f dst key):awayB g89 d f dst key=awayL [(89,41,4000000),(89,45,4000000),(89,60,4000000)] d f dst key:=rfl
@[simp] theorem g89_wl (d f a key):lateB g89 d f a key=lateL [(89,41,4000000),(89,45,4000000),(89,60,4000000)] d f a key:=rfl
theorem w89 {c vars} {mem:Mem} (hT:Tight 0 mem) (hq0:mem (0,0)=some [cL .shr c.b,cI c.i,cI c.h]) (hn0:NoBox [(0,0)] mem) {y} (hp:zeo c vars=some y):∃ m,callo g89 0 89 [.one (.ptr (0,0) 0),av .shr vars] mem=some (Res.res y.1,m)∧(m (0,0)=some [cL .shr y.2.b,cI y.2.i,cI y.2.h]∧Tight 0 m∧NoBox [(0,0)] m):=by
 refine stD [.cell 4 32] Tryz.func89 fun QV QV_=>?_
 unfold zeo at hp
 have n_1:=hn0 (1,4) (by simp)
 obtain ⟨y_2,h_3,hp⟩:=zaa hp
 simp [Tryz.f89,hq0,n_1]
 refine zal (0,0) (C79_eq h_3) g89_x79 (by simp [hq0]) (by simp) (by simp [hq0]) (.inr (by decide)) ?_
 obtain ⟨y_4,h_5,hp⟩:=zaa hp
 have c_6:=C45_eq h_5
 simp at c_6
 have n_7:=hn0 (1,5) (by simp)
 obtain ⟨y_8,h_9,hp⟩:=zaa hp
 try simp [hq0,c_6,n_7]
 refine zal (0,0) (C116_eq h_9) g89_x116 (by simp [hq0]) (by simp) (by simp [hq0]) (.inr (by decide)) ?_
 try simp [hq0]
 rcases zad hp with ⟨h_10,hp⟩|⟨h_10,hp⟩
 ·try simp at h_10
  obtain ⟨y_11,h_12,hp⟩:=zaa hp
  try simp [hq0,h_10]
  refine zal (0,0) (zfh h_12) zhh (by simp [hq0,h_10]) (by simp) (by simp [hq0,h_10]) (.inr (by decide)) ?_
  try simp [hq0,h_10]
  obtain ⟨r_69,h_70,hp⟩:=zaa hp
  obtain ⟨I_15,I_15_⟩:=exV fun (s_13:Int × (List U8) × Int × Int × (List TNode) × (List Int)) (σ:St)=>(σ.env 0=uP (0,0)∧σ.env 1=uI vars∧σ.env 4=uP (1,4)∧σ.env 5=uP (1,5)∧σ.env 6=uI y_11.1∧σ.env 7=uI s_13.1∧σ.mem (0,0)=some [cL .shr s_13.2.1,cI s_13.2.2.1,cI s_13.2.2.2.1]∧σ.mem (1,4)=some [.l .own 0 [],.l .own 0 []]∧σ.mem (1,5)=some [cL .own s_13.2.2.2.2.1,cL .own s_13.2.2.2.2.2])∧NoBox [(0,0),(1,4),(1,5)] σ.mem
  obtain ⟨X_16,X_16_⟩:=exV fun (r_69:(List U8) × Int × Int × (List TNode) × (List Int)) (out:Out)=>∃ σ:St,out=.exit 0 σ∧(σ.env 4=uP (1,4)∧σ.env 5=uP (1,5)∧σ.mem (0,0)=some [cL .shr r_69.1,cI r_69.2.1,cI r_69.2.2.1]∧σ.mem (1,4)=some [.l .own 0 [],.l .own 0 []]∧σ.mem (1,5)=some [cL .own r_69.2.2.2.1,cL .own r_69.2.2.2.2])∧NoBox [(0,0),(1,4),(1,5)] σ.mem
  refine loopP ({ hd:=[0,1,4,5,6,7],bx:=[],ex:=[4,5],rt:=[4] }) I_15 X_16 h_70 (by exact rfl) ?_ ?_ ?_
  ·rw [I_15_]
   exact ⟨by simp [zac,zab,hq0,h_10],NoBox.restrict (by intro k hk hb;simp at hk hb;simp [hk,hb,hq0,h_10,hn0 k (by simp [hk,hb])] <;> (intro hx;simp [hx]) <;> (intro hy;simp [hy]))⟩
  ·intro s_13 σ_17 a_14 hI hp
   rw [I_15_] at hI
   obtain ⟨q_19,hn_18⟩:=hI
   try simp [hq0,h_10,q_19]
   rcases zad hp with ⟨h_20,hp⟩|⟨h_20,hp⟩
   ·try simp at h_20
    try simp [hq0,h_10,q_19,h_20]
    rcases zad hp with ⟨h_21,hp⟩|⟨h_21,hp⟩
    ·try simp at h_21
     obtain ⟨y_22,h_23,hp⟩:=zaa hp
     try simp [hq0,h_10,q_19,h_20,h_21]
     refine zal (0,0) (zfh h_23) zhh (by simp [hq0,h_10,q_19,h_20,h_21]) (by simp) (by simp [hq0,h_10,q_19,h_20,h_21]) (.inr (by decide)) ?_
     obtain ⟨y_24,h_25,hp⟩:=zaa hp
     try simp [hq0,h_10,q_19,h_20,h_21]
     refine zal (0,0) (zfh h_25) zhh (by simp [hq0,h_10,q_19,h_20,h_21]) (by simp) (by simp [hq0,h_10,q_19,h_20,h_21]) (.inr (by decide)) ?_
     try simp [hq0,h_10,q_19,h_20,h_21]
     rcases zad hp with ⟨h_26,hp⟩|⟨h_26,hp⟩
     ·try simp at h_26
      try simp [hq0,h_10,q_19,h_20,h_21,h_26]
      have n_27:=hn_18 (1,1080) (by simp)
      obtain ⟨e_29,h_30,hp⟩:=zaa hp
      have c_31:=row_get h_30 1 (by decide) (d:=.sl e_29.reach.length (encL e_29.reach)) rfl
      try simp at c_31
      have b_33:=at_lo h_30
      have b_34:=at_hi h_30
      try simp at b_33 b_34
      have n_28:=hn_18 (1,108641) (by simp)
      try simp [hq0,h_10,q_19,h_20,h_21,h_26,n_27,c_31,b_33,b_34,n_28]
      obtain ⟨e_35,h_36,hp⟩:=zaa hp
      cases Option.some.inj (h_30.symm.trans h_36)
      have b_37:=at_lo h_30
      have b_38:=at_hi h_30
      try simp at b_37 b_38
      have c_39:=zpr h_30 1 (by decide) (.bs (1,108641) e_29.reach.length 1)
      try simp at c_39
      obtain ⟨y_40,h_41,hp⟩:=zaa hp
      try simp [hq0,h_10,q_19,h_20,h_21,h_26,b_37,b_38,c_39]
      refine zal (0,0) (zfh h_41) zhh (by simp [hq0,h_10,q_19,h_20,h_21,h_26]) (by simp) (by simp [hq0,h_10,q_19,h_20,h_21,h_26]) (.inr (by decide)) ?_
      obtain ⟨e_42,h_43,hp⟩:=zaa hp
      have b_44:=at_lo h_43
      have b_45:=at_hi h_43
      try simp at b_44 b_45
      have c_46:=zei h_43 0 1 [(cI 1)] (by simp) rfl
      try simp at c_46
      have l_47:=zfq h_43 0 (m:=1) (by decide)
      try simp at l_47
      have c_48:=zmi h_30 1 (by decide) (.bs (1,108641) (e_29.reach.set y_40.1.toNat 1).length 1)
      try simp at c_48
      have c_49:=znq h_30 1 (⟨e_29.vars,e_29.reach.set y_40.1.toNat 1,e_29.shared,e_29.many⟩:TNode) (c:=(cL .own (e_29.reach.set y_40.1.toNat 1))) rfl
      try simp at c_49
      cases hp
      try simp [hq0,h_10,q_19,h_20,h_21,h_26,b_44,b_45,c_46,l_47,c_48,c_49]
      refine zaf ?_
      rw [I_15_]
      exact ⟨by simp [zac,zab,hq0,h_10,q_19,h_20,h_21,h_26,b_44,b_45,c_46,l_47,c_48,c_49],NoBox.restrict (by intro k hk hb;simp at hk hb;simp [hk,hb,hq0,h_10,q_19,h_20,h_21,h_26,b_44,b_45,c_46,l_47,c_48,c_49,hn_18 k (by simp [hk,hb])] <;> (intro hx;simp [hx]) <;> (intro hy;simp [hy]))⟩
     ·try simp at h_26
      try simp [hq0,h_10,q_19,h_20,h_21,h_26]
      rcases zad hp with ⟨h_51,hp⟩|⟨h_51,hp⟩
      ·try simp at h_51
       try simp [hq0,h_10,q_19,h_20,h_21,h_26,h_51]
       have n_52:=hn_18 (1,1080) (by simp)
       obtain ⟨e_53,h_54,hp⟩:=zaa hp
       have b_55:=at_lo h_54
       have b_56:=at_hi h_54
       try simp at b_55 b_56
       have c_57:=zei h_54 2 (⟨e_53.vars,e_53.reach,1,e_53.many⟩:TNode) [(cI 1)] (by simp) rfl
       try simp at c_57
       have l_58:=zfq h_54 2 (m:=1) (by decide)
       try simp at l_58
       cases hp
       try simp [hq0,h_10,q_19,h_20,h_21,h_26,h_51,n_52,b_55,b_56,c_57,l_58]
       refine zaf ?_
       rw [I_15_]
       exact ⟨by simp [zac,zab,hq0,h_10,q_19,h_20,h_21,h_26,h_51,n_52,b_55,b_56,c_57,l_58],NoBox.restrict (by intro k hk hb;simp at hk hb;simp [hk,hb,hq0,h_10,q_19,h_20,h_21,h_26,h_51,n_52,b_55,b_56,c_57,l_58,hn_18 k (by simp [hk,hb])] <;> (intro hx;simp [hx]) <;> (intro hy;simp [hy]))⟩
      ·try simp at h_51
       try simp [hq0,h_10,q_19,h_20,h_21,h_26,h_51]
       rcases zad hp with ⟨h_59,hp⟩|⟨h_59,hp⟩
       ·try simp at h_59
        try simp [hq0,h_10,q_19,h_20,h_21,h_26,h_51,h_59]
        have n_60:=hn_18 (1,1081) (by simp)
        obtain ⟨y_61,h_62,hp⟩:=zaa hp
        try simp [hq0,h_10,q_19,h_20,h_21,h_26,h_51,h_59,n_60]
        refine zal (0,0) (zfh h_62) zhh (by simp [hq0,h_10,q_19,h_20,h_21,h_26,h_51,h_59]) (by simp) (by simp [hq0,h_10,q_19,h_20,h_21,h_26,h_51,h_59]) (.inr (by decide)) ?_
        obtain ⟨e_63,h_64,hp⟩:=zaa hp
        have b_65:=at_lo h_64
        have b_66:=at_hi h_64
        try simp at b_65 b_66
        have c_67:=zei h_64 0 1 [(cI 1)] (by simp) rfl
        try simp at c_67
        have l_68:=zfq h_64 0 (m:=1) (by decide)
        try simp at l_68
        cases hp
        try simp [hq0,h_10,q_19,h_20,h_21,h_26,h_51,h_59,b_65,b_66,c_67,l_68]
        refine zaf ?_
        rw [I_15_]
        exact ⟨by simp [zac,zab,hq0,h_10,q_19,h_20,h_21,h_26,h_51,h_59,b_65,b_66,c_67,l_68],NoBox.restrict (by intro k hk hb;simp at hk hb;simp [hk,hb,hq0,h_10,q_19,h_20,h_21,h_26,h_51,h_59,b_65,b_66,c_67,l_68,hn_18 k (by simp [hk,hb])] <;> (intro hx;simp [hx]) <;> (intro hy;simp [hy]))⟩
       ·try simp at h_59
        cases hp
        try simp [hq0,h_10,q_19,h_20,h_21,h_26,h_51,h_59]
        refine zaf ?_
        rw [I_15_]
        exact ⟨by simp [zac,zab,hq0,h_10,q_19,h_20,h_21,h_26,h_51,h_59],NoBox.restrict (by intro k hk hb;simp at hk hb;simp [hk,hb,hq0,h_10,q_19,h_20,h_21,h_26,h_51,h_59,hn_18 k (by simp [hk,hb])] <;> (intro hx;simp [hx]) <;> (intro hy;simp [hy]))⟩
    ·try simp at h_21
     cases hp
     try simp [hq0,h_10,q_19,h_20,h_21]
     refine zai ?_
     rw [X_16_]
     exact ⟨_,rfl,by simp [zac,zab,hq0,h_10,q_19,h_20,h_21],NoBox.restrict (by intro k hk hb;simp at hk hb;simp [hk,hb,hq0,h_10,q_19,h_20,h_21,hn_18 k (by simp [hk,hb])] <;> (intro hx;simp [hx]) <;> (intro hy;simp [hy]))⟩
   ·try simp at h_20
    cases hp
    try simp [hq0,h_10,q_19,h_20]
    refine zai ?_
    rw [X_16_]
    exact ⟨_,rfl,by simp [zac,zab,hq0,h_10,q_19,h_20],NoBox.restrict (by intro k hk hb;simp at hk hb;simp [hk,hb,hq0,h_10,q_19,h_20,hn_18 k (by simp [hk,hb])] <;> (intro hx;simp [hx]) <;> (intro hy;simp [hy]))⟩
  ·intro out hX
   rw [X_16_] at hX
   obtain ⟨σ_71,rfl,q_73,hn_72⟩:=hX
   cases hp
   simp [Goal,FnEndD,retR,rsrc,RSrc.val,nodupR,nodup,tupPart,hq0,h_10,q_73]
   rw [QV_]
   exact ⟨by simp [hq0,h_10,q_73],zbg _ _,zbi (L':=[(0,0),(1,4),(1,5)]) (by intro k hk;simp at hk;simp [hk,hq0,h_10,q_73,hn_72 k (by simp [hk])] <;> (intro hx;simp [hx]) <;> (intro hy;simp [hy])) (by simp)⟩
 ·try simp at h_10
  obtain ⟨y_74,h_75,hp⟩:=zaa hp
  have c_76:=C25_eq h_75
  simp at c_76
  obtain ⟨y_77,h_78,hp⟩:=zaa hp
  try simp [hq0,h_10,c_76]
  refine zal (0,0) (zfh h_78) zhh (by simp [hq0,h_10]) (by simp) (by simp [hq0,h_10]) (.inr (by decide)) ?_
  try simp [hq0,h_10]
  obtain ⟨r_135,h_136,hp⟩:=zaa hp
  obtain ⟨I_81,I_81_⟩:=exV fun (s_79:Int × (List U8) × Int × Int × (List TNode) × (List Int)) (σ:St)=>(σ.env 0=uP (0,0)∧σ.env 1=uI vars∧σ.env 4=uP (1,4)∧σ.env 5=uP (1,5)∧σ.env 6=uI y_77.1∧σ.env 7=uI s_79.1∧σ.mem (0,0)=some [cL .shr s_79.2.1,cI s_79.2.2.1,cI s_79.2.2.2.1]∧σ.mem (1,4)=some [.l .own 0 [],.l .own 0 []]∧σ.mem (1,5)=some [cL .own s_79.2.2.2.2.1,cL .own s_79.2.2.2.2.2])∧NoBox [(0,0),(1,4),(1,5)] σ.mem
  obtain ⟨X_82,X_82_⟩:=exV fun (r_135:(List U8) × Int × Int × (List TNode) × (List Int)) (out:Out)=>∃ σ:St,out=.exit 0 σ∧(σ.env 4=uP (1,4)∧σ.env 5=uP (1,5)∧σ.mem (0,0)=some [cL .shr r_135.1,cI r_135.2.1,cI r_135.2.2.1]∧σ.mem (1,4)=some [.l .own 0 [],.l .own 0 []]∧σ.mem (1,5)=some [cL .own r_135.2.2.2.1,cL .own r_135.2.2.2.2])∧NoBox [(0,0),(1,4),(1,5)] σ.mem
  refine loopP ({ hd:=[0,1,4,5,6,7],bx:=[],ex:=[4,5],rt:=[4] }) I_81 X_82 h_136 (by exact rfl) ?_ ?_ ?_
  ·rw [I_81_]
   exact ⟨by simp [zac,zab,hq0,h_10],NoBox.restrict (by intro k hk hb;simp at hk hb;simp [hk,hb,hq0,h_10,hn0 k (by simp [hk,hb])] <;> (intro hx;simp [hx]) <;> (intro hy;simp [hy]))⟩
  ·intro s_79 σ_83 a_80 hI hp
   rw [I_81_] at hI
   obtain ⟨q_85,hn_84⟩:=hI
   try simp [hq0,h_10,q_85]
   rcases zad hp with ⟨h_86,hp⟩|⟨h_86,hp⟩
   ·try simp at h_86
    try simp [hq0,h_10,q_85,h_86]
    rcases zad hp with ⟨h_87,hp⟩|⟨h_87,hp⟩
    ·try simp at h_87
     obtain ⟨y_88,h_89,hp⟩:=zaa hp
     try simp [hq0,h_10,q_85,h_86,h_87]
     refine zal (0,0) (zfh h_89) zhh (by simp [hq0,h_10,q_85,h_86,h_87]) (by simp) (by simp [hq0,h_10,q_85,h_86,h_87]) (.inr (by decide)) ?_
     obtain ⟨y_90,h_91,hp⟩:=zaa hp
     try simp [hq0,h_10,q_85,h_86,h_87]
     refine zal (0,0) (zfh h_91) zhh (by simp [hq0,h_10,q_85,h_86,h_87]) (by simp) (by simp [hq0,h_10,q_85,h_86,h_87]) (.inr (by decide)) ?_
     try simp [hq0,h_10,q_85,h_86,h_87]
     rcases zad hp with ⟨h_92,hp⟩|⟨h_92,hp⟩
     ·try simp at h_92
      try simp [hq0,h_10,q_85,h_86,h_87,h_92]
      have n_93:=hn_84 (1,1080) (by simp)
      obtain ⟨e_95,h_96,hp⟩:=zaa hp
      have c_97:=row_get h_96 1 (by decide) (d:=.sl e_95.reach.length (encL e_95.reach)) rfl
      try simp at c_97
      have b_99:=at_lo h_96
      have b_100:=at_hi h_96
      try simp at b_99 b_100
      have n_94:=hn_84 (1,108641) (by simp)
      try simp [hq0,h_10,q_85,h_86,h_87,h_92,n_93,c_97,b_99,b_100,n_94]
      obtain ⟨e_101,h_102,hp⟩:=zaa hp
      cases Option.some.inj (h_96.symm.trans h_102)
      have b_103:=at_lo h_96
      have b_104:=at_hi h_96
      try simp at b_103 b_104
      have c_105:=zpr h_96 1 (by decide) (.bs (1,108641) e_95.reach.length 1)
      try simp at c_105
      obtain ⟨y_106,h_107,hp⟩:=zaa hp
      try simp [hq0,h_10,q_85,h_86,h_87,h_92,b_103,b_104,c_105]
      refine zal (0,0) (zfh h_107) zhh (by simp [hq0,h_10,q_85,h_86,h_87,h_92]) (by simp) (by simp [hq0,h_10,q_85,h_86,h_87,h_92]) (.inr (by decide)) ?_
      obtain ⟨e_108,h_109,hp⟩:=zaa hp
      have b_110:=at_lo h_109
      have b_111:=at_hi h_109
      try simp at b_110 b_111
      have c_112:=zei h_109 0 1 [(cI 1)] (by simp) rfl
      try simp at c_112
      have l_113:=zfq h_109 0 (m:=1) (by decide)
      try simp at l_113
      have c_114:=zmi h_96 1 (by decide) (.bs (1,108641) (e_95.reach.set y_106.1.toNat 1).length 1)
      try simp at c_114
      have c_115:=znq h_96 1 (⟨e_95.vars,e_95.reach.set y_106.1.toNat 1,e_95.shared,e_95.many⟩:TNode) (c:=(cL .own (e_95.reach.set y_106.1.toNat 1))) rfl
      try simp at c_115
      cases hp
      try simp [hq0,h_10,q_85,h_86,h_87,h_92,b_110,b_111,c_112,l_113,c_114,c_115]
      refine zaf ?_
      rw [I_81_]
      exact ⟨by simp [zac,zab,hq0,h_10,q_85,h_86,h_87,h_92,b_110,b_111,c_112,l_113,c_114,c_115],NoBox.restrict (by intro k hk hb;simp at hk hb;simp [hk,hb,hq0,h_10,q_85,h_86,h_87,h_92,b_110,b_111,c_112,l_113,c_114,c_115,hn_84 k (by simp [hk,hb])] <;> (intro hx;simp [hx]) <;> (intro hy;simp [hy]))⟩
     ·try simp at h_92
      try simp [hq0,h_10,q_85,h_86,h_87,h_92]
      rcases zad hp with ⟨h_117,hp⟩|⟨h_117,hp⟩
      ·try simp at h_117
       try simp [hq0,h_10,q_85,h_86,h_87,h_92,h_117]
       have n_118:=hn_84 (1,1080) (by simp)
       obtain ⟨e_119,h_120,hp⟩:=zaa hp
       have b_121:=at_lo h_120
       have b_122:=at_hi h_120
       try simp at b_121 b_122
       have c_123:=zei h_120 2 (⟨e_119.vars,e_119.reach,1,e_119.many⟩:TNode) [(cI 1)] (by simp) rfl
       try simp at c_123
       have l_124:=zfq h_120 2 (m:=1) (by decide)
       try simp at l_124
       cases hp
       try simp [hq0,h_10,q_85,h_86,h_87,h_92,h_117,n_118,b_121,b_122,c_123,l_124]
       refine zaf ?_
       rw [I_81_]
       exact ⟨by simp [zac,zab,hq0,h_10,q_85,h_86,h_87,h_92,h_117,n_118,b_121,b_122,c_123,l_124],NoBox.restrict (by intro k hk hb;simp at hk hb;simp [hk,hb,hq0,h_10,q_85,h_86,h_87,h_92,h_117,n_118,b_121,b_122,c_123,l_124,hn_84 k (by simp [hk,hb])] <;> (intro hx;simp [hx]) <;> (intro hy;simp [hy]))⟩
      ·try simp at h_117
       try simp [hq0,h_10,q_85,h_86,h_87,h_92,h_117]
       rcases zad hp with ⟨h_125,hp⟩|⟨h_125,hp⟩
       ·try simp at h_125
        try simp [hq0,h_10,q_85,h_86,h_87,h_92,h_117,h_125]
        have n_126:=hn_84 (1,1081) (by simp)
        obtain ⟨y_127,h_128,hp⟩:=zaa hp
        try simp [hq0,h_10,q_85,h_86,h_87,h_92,h_117,h_125,n_126]
        refine zal (0,0) (zfh h_128) zhh (by simp [hq0,h_10,q_85,h_86,h_87,h_92,h_117,h_125]) (by simp) (by simp [hq0,h_10,q_85,h_86,h_87,h_92,h_117,h_125]) (.inr (by decide)) ?_
        obtain ⟨e_129,h_130,hp⟩:=zaa hp
        have b_131:=at_lo h_130
        have b_132:=at_hi h_130
        try simp at b_131 b_132
        have c_133:=zei h_130 0 1 [(cI 1)] (by simp) rfl
        try simp at c_133
        have l_134:=zfq h_130 0 (m:=1) (by decide)
        try simp at l_134
        cases hp
        try simp [hq0,h_10,q_85,h_86,h_87,h_92,h_117,h_125,b_131,b_132,c_133,l_134]
        refine zaf ?_
        rw [I_81_]
        exact ⟨by simp [zac,zab,hq0,h_10,q_85,h_86,h_87,h_92,h_117,h_125,b_131,b_132,c_133,l_134],NoBox.restrict (by intro k hk hb;simp at hk hb;simp [hk,hb,hq0,h_10,q_85,h_86,h_87,h_92,h_117,h_125,b_131,b_132,c_133,l_134,hn_84 k (by simp [hk,hb])] <;> (intro hx;simp [hx]) <;> (intro hy;simp [hy]))⟩
       ·try simp at h_125
        cases hp
        try simp [hq0,h_10,q_85,h_86,h_87,h_92,h_117,h_125]
        refine zaf ?_
        rw [I_81_]
        exact ⟨by simp [zac,zab,hq0,h_10,q_85,h_86,h_87,h_92,h_117,h_125],NoBox.restrict (by intro k hk hb;simp at hk hb;simp [hk,hb,hq0,h_10,q_85,h_86,h_87,h_92,h_117,h_125,hn_84 k (by simp [hk,hb])] <;> (intro hx;simp [hx]) <;> (intro hy;simp [hy]))⟩
    ·try simp at h_87
     cases hp
     try simp [hq0,h_10,q_85,h_86,h_87]
     refine zai ?_
     rw [X_82_]
     exact ⟨_,rfl,by simp [zac,zab,hq0,h_10,q_85,h_86,h_87],NoBox.restrict (by intro k hk hb;simp at hk hb;simp [hk,hb,hq0,h_10,q_85,h_86,h_87,hn_84 k (by simp [hk,hb])] <;> (intro hx;simp [hx]) <;> (intro hy;simp [hy]))⟩
   ·try simp at h_86
    cases hp
    try simp [hq0,h_10,q_85,h_86]
    refine zai ?_
    rw [X_82_]
    exact ⟨_,rfl,by simp [zac,zab,hq0,h_10,q_85,h_86],NoBox.restrict (by intro k hk hb;simp at hk hb;simp [hk,hb,hq0,h_10,q_85,h_86,hn_84 k (by simp [hk,hb])] <;> (intro hx;simp [hx]) <;> (intro hy;simp [hy]))⟩
  ·intro out hX
   rw [X_82_] at hX
   obtain ⟨σ_137,rfl,q_139,hn_138⟩:=hX
   cases hp
   simp [Goal,FnEndD,retR,rsrc,RSrc.val,nodupR,nodup,tupPart,hq0,h_10,q_139]
   rw [QV_]
   exact ⟨by simp [hq0,h_10,q_139],zbg _ _,zbi (L':=[(0,0),(1,4),(1,5)]) (by intro k hk;simp at hk;simp [hk,hq0,h_10,q_139,hn_138 k (by simp [hk])] <;> (intro hx;simp [hx]) <;> (intro hy;simp [hy])) (by simp)⟩
theorem px89:PX Tryz.prog 89 C89:=px_of (g:=g89) (zfp [(25,C25),(45,C45)] rfl ⟨pc25,pc45,trivial⟩ [] rfl trivial [] rfl trivial [(41,C41),(79,C79),(116,C116)] rfl ⟨px41,px79,px116,trivial⟩) (ent Tryz.func89) fun x t y h=>by
 obtain ⟨m,h1,h2,_,h3⟩:=w89 (mem:=upd mem0 (0,0) (some (bxT t))) (Tight.upd (zap _) (by simp) (by simp)) (by simp [upd,bxT]) (zgi _ _) h
 exact ⟨m,h1,h2,h3⟩
end Go.Proofs

