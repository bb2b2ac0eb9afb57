import Derived.Test.YtfcfpdcjepobpaaGreatEvA11
set_option linter.unusedSimpArgs false
set_option linter.unusedVariables false
set_option linter.unnecessarySimpa false
noncomputable section
set_option maxHeartbeats 4000000
set_option maxRecDepth 100000
namespace Go.Proofs
open Go.Ev
def C67:List AV→Option AV:=specP (X:=TStructure × Unit) fun x=>zbp x.1
theorem C67_eq {s} {y} (h:zbp s=some y):C67 [av .shr s]=some (Res.res y):=zah (x:=(s,())) h
def g67:Cfg:={ P:=Tryz.prog,take:=[],keep:=[],gho:=[],ctx:=[(57,C57)] }
@[simp] theorem g67_s:type_of% (cfg_s (g:=g67) rfl):=cfg_s rfl
theorem w67 {s} {y} (hp:zbp s=some y):∃ m,callo g67 0 67 [av .shr s] mem0=some (Res.res y,m):=by
 refine st0 [.tmp 2] Tryz.func67 ?_
 unfold zbp at hp
 simp [Tryz.f67]
 rcases zad hp with ⟨h_1,hp⟩|⟨h_1,hp⟩
 ·try simp at h_1
  cases hp
  simp [Goal,FnEnd,h_1]
 ·try simp at h_1
  obtain ⟨y_2,h_3,hp⟩:=zab hp
  have c_4:=C57_eq h_3
  simp at c_4
  cases hp
  simp [Goal,FnEnd,h_1,c_4]
theorem pc67:PC Tryz.prog 67 C67:=pc_of (g:=g67) (zai _ g67_s.2.1 ⟨pc57,trivial⟩) (ent Tryz.func67) fun x y h=>w67 h

def C105:List AV→Option AV:=specP (X:=(List Int) × Int × Unit) fun x=>zgc x.1 x.2.1
theorem C105_eq {list k_} {y} (h:zgc list k_=some y):C105 [av .shr list,av .shr k_]=some (Res.res y):=zah (x:=(list,k_,())) h
def g105:Cfg:={ P:=Tryz.prog,take:=[],keep:=[],gho:=[],ctx:=[(66,C66)] }
@[simp] theorem g105_s:type_of% (cfg_s (g:=g105) rfl):=cfg_s rfl
theorem w105 {list k_} {y} (hp:zgc list k_=some y):∃ m,callo g105 0 105 [av .shr list,av .shr k_] mem0=some (Res.res y,m):=by
 refine st0 [.tmp 4] Tryz.func105 ?_
 unfold zgc at hp
 obtain ⟨y_1,h_2,hp⟩:=zab hp
 have c_3:=zfw h_2
 simp at c_3
 simp [Tryz.f105,c_3]
 rcases zad hp with ⟨h_4,hp⟩|⟨h_4,hp⟩
 ·try simp at h_4
  obtain ⟨e_5,h_6,hp⟩:=zab hp
  have b_7:=at_lo h_6
  have b_8:=at_hi h_6
  try simp at b_7 b_8
  have c_9:=seg_at' h_6 0 1 (by decide) (ds:=[.sc (.int .i64 e_5)]) rfl
  try simp at c_9
  cases hp
  simp [Goal,FnEnd,h_4,b_7,b_8,c_9]
 ·try simp at h_4
  cases hp
  simp [Goal,FnEnd,h_4]
theorem pc105:PC Tryz.prog 105 C105:=pc_of (g:=g105) (zai _ g105_s.2.1 ⟨pc66,trivial⟩) (ent Tryz.func105) fun x y h=>w105 h

def C69:List AV→Option AV:=specP (X:=TStructure × Int × Int × Unit) fun x=>zde x.1 x.2.1 x.2.2.1
theorem C69_eq {s k_ i} {y} (h:zde s k_ i=some y):C69 [av .shr s,av .shr k_,av .shr i]=some (Res.res y):=zah (x:=(s,k_,i,())) h
def g69:Cfg:={ P:=Tryz.prog,take:=[],keep:=[],gho:=[],ctx:=[(57,C57),(66,C66),(105,C105)] }
@[simp] theorem g69_s:type_of% (cfg_s (g:=g69) rfl):=cfg_s rfl
theorem w69 {s k_ i} {y} (hp:zde s k_ i=some y):∃ m,callo g69 0 69 [av .shr s,av .shr k_,av .shr i] mem0=some (Res.res y,m):=by
 refine st0 [.tmp 6] Tryz.func69 ?_
 unfold zde at hp
 obtain ⟨y_1,h_2,hp⟩:=zab hp
 have c_3:=C57_eq h_2
 simp at c_3
 obtain ⟨y_4,h_5,hp⟩:=zab hp
 have c_6:=zfw h_5
 simp at c_6
 simp [Tryz.f69,c_3,c_6]
 rcases zad hp with ⟨h_7,hp⟩|⟨h_7,hp⟩
 ·try simp at h_7
  obtain ⟨y_8,h_9,hp⟩:=zab hp
  have c_10:=zfw h_9
  simp at c_10
  try simp [h_7,c_10]
  rcases zad hp with ⟨h_11,hp⟩|⟨h_11,hp⟩
  ·try simp at h_11
   obtain ⟨e_12,h_13,hp⟩:=zab hp
   have b_14:=at_lo h_13
   have b_15:=at_hi h_13
   try simp at b_14 b_15
   have c_16:=seg_at' h_13 0 1 (by decide) (ds:=[.sl e_12.vars.length (encL e_12.vars)]) rfl
   try simp at c_16
   obtain ⟨y_17,h_18,hp⟩:=zab hp
   have c_19:=C105_eq h_18
   simp at c_19
   cases hp
   simp [Goal,FnEnd,h_7,h_11,b_14,b_15,c_16,c_19]
  ·try simp at h_11
   obtain ⟨y_20,h_21,hp⟩:=zab hp
   have c_22:=zfw h_21
   simp at c_22
   try simp [h_7,h_11,c_22]
   rcases zad hp with ⟨h_23,hp⟩|⟨h_23,hp⟩
   ·try simp at h_23
    obtain ⟨e_24,h_25,hp⟩:=zab hp
    have b_26:=at_lo h_25
    have b_27:=at_hi h_25
    try simp at b_26 b_27
    have c_28:=seg_at' h_25 1 1 (by decide) (ds:=[.sl e_24.reach.length (encL e_24.reach)]) rfl
    try simp at c_28
    obtain ⟨y_29,h_30,hp⟩:=zab hp
    have c_31:=C105_eq h_30
    simp at c_31
    cases hp
    simp [Goal,FnEnd,h_7,h_11,h_23,b_26,b_27,c_28,c_31]
   ·try simp at h_23
    try simp [h_7,h_11,h_23]
    rcases zad hp with ⟨h_32,hp⟩|⟨h_32,hp⟩
    ·try simp at h_32
     obtain ⟨e_33,h_34,hp⟩:=zab hp
     have b_35:=at_lo h_34
     have b_36:=at_hi h_34
     try simp at b_35 b_36
     have c_37:=seg_at' h_34 2 1 (by decide) (ds:=[.sc (.int .i64 e_33.shared)]) rfl
     try simp at c_37
     cases hp
     simp [Goal,FnEnd,h_7,h_11,h_23,h_32,b_35,b_36,c_37]
    ·try simp at h_32
     cases hp
     simp [Goal,FnEnd,h_7,h_11,h_23,h_32]
 ·try simp at h_7
  cases hp
  simp [Goal,FnEnd,h_7]
theorem pc69:PC Tryz.prog 69 C69:=pc_of (g:=g69) (zai _ g69_s.2.1 ⟨pc57,pc66,pc105,trivial⟩) (ent Tryz.func69) fun x y h=>w69 h

def C68:List AV→Option AV:=specP (X:=Int × Unit) fun x=>zcw x.1
theorem C68_eq {a_} {y} (h:zcw a_=some y):C68 [av .shr a_]=some (Res.res y):=zah (x:=(a_,())) h
def g68:Cfg:={ P:=Tryz.prog,take:=[],keep:=[],gho:=[],ctx:=[(73,C73)] }
@[simp] theorem g68_s:type_of% (cfg_s (g:=g68) rfl):=cfg_s rfl
theorem w68 {a_} {y} (hp:zcw a_=some y):∃ m,callo g68 0 68 [av .shr a_] mem0=some (Res.res y,m):=by
 refine st0 [.tmp 2] Tryz.func68 ?_
 unfold zcw at hp
 obtain ⟨y_1,h_2,hp⟩:=zab hp
 have c_3:=zpx h_2
 simp at c_3
 simp [Tryz.f68,c_3]
 rcases zad hp with ⟨h_4,hp⟩|⟨h_4,hp⟩
 ·try simp at h_4
  obtain ⟨z_5,h_6,hp⟩:=zab hp
  have c_7:=sl_str Tryz.underlying9 h_6
  cases hp
  simp [Goal,FnEnd,h_4,c_7]
 ·try simp at h_4
  cases hp
  simp [Goal,FnEnd,h_4]
theorem pc68:PC Tryz.prog 68 C68:=pc_of (g:=g68) (zai _ g68_s.2.1 ⟨pc73,trivial⟩) (ent Tryz.func68) fun x y h=>w68 h

def C27:List AV→Option AV:=specP (X:=TStructure × Int × Unit) fun x=>zev x.1 x.2.1
theorem C27_eq {s i} {y} (h:zev s i=some y):C27 [av .shr s,av .shr i]=some (Res.res y):=zah (x:=(s,i,())) h
def g27:Cfg:={ P:=Tryz.prog,take:=[],keep:=[((27,6),{ hd:=[1,2,5,6,7],bx:=[],ex:=[5],rt:=[4] })],gho:=[],ctx:=[(66,C66),(67,C67),(68,C68),(69,C69)] }
@[simp] theorem g27_s:type_of% (cfg_s (g:=g27) rfl):=cfg_s rfl
theorem w27 {s i} {y} (hp:zev s i=some y):∃ m,callo g27 0 27 [av .shr s,av .shr i] mem0=some (Res.res y,m):=by
 refine st0 [.tmp 4] Tryz.func27 ?_
 unfold zev at hp
 obtain ⟨y_1,h_2,hp⟩:=zab hp
 have c_3:=zfw h_2
 simp at c_3
 simp [Tryz.f27,c_3]
 rcases zad hp with ⟨h_4,hp⟩|⟨h_4,hp⟩
 ·try simp at h_4
  obtain ⟨y_5,h_6,hp⟩:=zab hp
  have c_7:=C67_eq h_6
  simp at c_7
  try simp [h_4,c_7]
  obtain ⟨r_25,h_26,hp⟩:=zab hp
  obtain ⟨I_10,I_10_⟩:=exV fun (s_8:ByteArray × Int) (σ:St)=>(σ.env 1=uI i∧σ.env 2=uP (1,2)∧σ.env 5=.one (.s (.string s_8.1))∧σ.env 6=uI y_5∧σ.env 7=uI s_8.2∧σ.mem (1,2)=some [cL .shr s.nodes,cL .shr s.next])∧NoBox [(1,2)] σ.mem
  obtain ⟨X_11,X_11_⟩:=exV fun (r_25:ByteArray) (out:Out)=>∃ σ:St,out=.exit 0 σ∧(σ.env 5=.one (.s (.string r_25))∧σ.mem (1,2)=some [cL .shr s.nodes,cL .shr s.next])∧NoBox [(1,2)] σ.mem
  refine loopP ({ hd:=[1,2,5,6,7],bx:=[],ex:=[5],rt:=[4] }) I_10 X_11 h_26 (by exact rfl) ?_ ?_ ?_
  ·rw [I_10_]
   exact ⟨by simp [zac,zaa,h_4],NoBox.restrict (by intro k hk hb;simp at hk hb;simp [hk,hb,h_4])⟩
  ·intro s_8 σ_12 a_9 hI hp
   rw [I_10_] at hI
   obtain ⟨q_14,hn_13⟩:=hI
   try simp [h_4,q_14]
   rcases zad hp with ⟨h_15,hp⟩|⟨h_15,hp⟩
   ·try simp at h_15
    obtain ⟨y_16,h_17,hp⟩:=zab hp
    have c_18:=C69_eq h_17
    simp at c_18
    obtain ⟨y_19,h_20,hp⟩:=zab hp
    have c_21:=C68_eq h_20
    simp at c_21
    obtain ⟨z_22,h_23,hp⟩:=zab hp
    have c_24:=zhs (P:=Tryz.prog) (t:=9) h_23
    cases hp
    try simp [h_4,q_14,h_15,c_18,c_21,c_24]
    refine zae ?_
    rw [I_10_]
    exact ⟨by simp [zac,zaa,h_4,q_14,h_15,c_18,c_21,c_24],NoBox.restrict (by intro k hk hb;simp at hk hb;simp [hk,hb,h_4,q_14,h_15,c_18,c_21,c_24,hn_13 k (by simp [hk,hb])])⟩
   ·try simp at h_15
    cases hp
    try simp [h_4,q_14,h_15]
    refine zag ?_
    rw [X_11_]
    exact ⟨_,rfl,by simp [zac,zaa,h_4,q_14,h_15],NoBox.restrict (by intro k hk hb;simp at hk hb;simp [hk,hb,h_4,q_14,h_15,hn_13 k (by simp [hk,hb])])⟩
  ·intro out hX
   rw [X_11_] at hX
   obtain ⟨σ_27,rfl,q_29,hn_28⟩:=hX
   cases hp
   simp [Goal,FnEnd,h_4,q_29]
 ·try simp at h_4
  cases hp
  simp [Goal,FnEnd,h_4]
theorem pc27:PC Tryz.prog 27 C27:=pc_of (g:=g27) (zai _ g27_s.2.1 ⟨pc66,pc67,pc68,pc69,trivial⟩) (ent Tryz.func27) fun x y h=>w27 h

def C59:List AV→Option AV:=specS (X:=TStructure × Unit) fun x=>zfu x.1
theorem C59_eq {s} {y} (h:zfu s=some y):C59 [av .shr s]=some (av .shr y):=specS_eq (x:=(s,())) h
theorem pc59:PC Tryz.prog 59 C59:=pc_l17 pc27 fun s i x h=>C27_eq h

def C60:List AV→Option AV:=specP (X:=TStructure × (List Int) × Unit) fun x=>zep x.1 x.2.1
theorem C60_eq {s group} {y} (h:zep s group=some y):C60 [av .shr s,av .shr group]=some (Res.res y):=zah (x:=(s,group,())) h
def g60:Cfg:={ P:=Tryz.prog,take:=[(60,37)],keep:=[((60,3),{ hd:=[1,2,4,5,6],bx:=[],ex:=[4,5],rt:=[4] })],gho:=[],ctx:=[(102,C102)] }
@[simp] theorem g60_s:type_of% (cfg_s (g:=g60) rfl):=cfg_s rfl
theorem w60 {s group} {y} (hp:zep s group=some y):∃ m,callo g60 0 60 [av .shr s,av .shr group] mem0=some (Res.res y,m):=by
 refine st0 [.cell 4 75] Tryz.func60 ?_
 unfold zep at hp
 obtain ⟨e_1,h_2,hp⟩:=zab hp
 have b_4:=at_hi h_2
 try simp at b_4
 have c_5:=seg_at' h_2 0 1 (by decide) (ds:=[.sc (.int .i64 e_1)]) rfl
 try simp at c_5
 obtain ⟨e_6,h_7,hp⟩:=zab hp
 have b_8:=at_lo h_7
 have b_9:=at_hi h_7
 try simp at b_8 b_9
 have c_10:=seg_at' h_7 0 4 (by decide) (ds:=[.sl e_6.vars.length (encL e_6.vars),.sl e_6.reach.length (encL e_6.reach),.sc (.int .i64 e_6.shared),.sc (.int .i64 e_6.many)]) rfl
 try simp at c_10
 obtain ⟨y_11,h_12,hp⟩:=zab hp
 have c_13:=C102_eq h_12
 simp at c_13
 simp [Tryz.f60,b_4,c_5,b_8,b_9,c_10,c_13]
 obtain ⟨r_34,h_35,hp⟩:=zab hp
 obtain ⟨I_16,I_16_⟩:=exV fun (s_14:Int × Int) (σ:St)=>(σ.env 1=uL .shr group∧σ.env 2=uP (1,2)∧σ.env 4=uP (1,4)∧σ.env 5=uP (1,5)∧σ.env 6=uI s_14.1∧σ.mem (1,2)=some [cL .shr s.nodes,cL .shr s.next]∧σ.mem (1,4)=some [.l .own 0 [],.l .own 0 [],cI 0,cI 0]∧σ.mem (1,5)=some [cL .own y_11.vars,cL .own y_11.reach,cI y_11.shared,cI s_14.2])∧NoBox [(1,2),(1,4),(1,5)] σ.mem
 obtain ⟨X_17,X_17_⟩:=exV fun (r_34:Int) (out:Out)=>∃ σ:St,out=.exit 0 σ∧(σ.env 4=uP (1,4)∧σ.env 5=uP (1,5)∧σ.mem (1,2)=some [cL .shr s.nodes,cL .shr s.next]∧σ.mem (1,4)=some [.l .own 0 [],.l .own 0 [],cI 0,cI 0]∧σ.mem (1,5)=some [cL .own y_11.vars,cL .own y_11.reach,cI y_11.shared,cI r_34])∧NoBox [(1,2),(1,4),(1,5)] σ.mem
 refine loopP ({ hd:=[1,2,4,5,6],bx:=[],ex:=[4,5],rt:=[4] }) I_16 X_17 h_35 (by exact rfl) ?_ ?_ ?_
 ·rw [I_16_]
  exact ⟨by simp [zac,zaa],NoBox.restrict (by intro k hk hb;simp at hk hb;simp [hk,hb])⟩
 ·intro s_14 σ_18 a_15 hI hp
  rw [I_16_] at hI
  obtain ⟨q_20,hn_19⟩:=hI
  try simp [q_20]
  rcases zad hp with ⟨h_21,hp⟩|⟨h_21,hp⟩
  ·try simp at h_21
   try simp [q_20,h_21]
   rcases zad hp with ⟨h_22,hp⟩|⟨h_22,hp⟩
   ·try simp at h_22
    cases hp
    try simp [q_20,h_21,h_22]
    refine zae ?_
    rw [I_16_]
    exact ⟨by simp [zac,zaa,q_20,h_21,h_22],NoBox.restrict (by intro k hk hb;simp at hk hb;simp [hk,hb,q_20,h_21,h_22,hn_19 k (by simp [hk,hb])])⟩
   ·try simp at h_22
    obtain ⟨e_23,h_24,hp⟩:=zab hp
    have b_25:=at_lo h_24
    have b_26:=at_hi h_24
    try simp at b_25 b_26
    have c_27:=seg_at' h_24 0 1 (by decide) (ds:=[.sc (.int .i64 e_23)]) rfl
    try simp at c_27
    obtain ⟨e_28,h_29,hp⟩:=zab hp
    have b_30:=at_lo h_29
    have b_31:=at_hi h_29
    try simp at b_30 b_31
    have c_32:=seg_at' h_29 3 1 (by decide) (ds:=[.sc (.int .i64 e_28.many)]) rfl
    try simp at c_32
    try simp [q_20,h_21,h_22,b_25,b_26,c_27,b_30,b_31,c_32]
    rcases zad hp with ⟨h_33,hp⟩|⟨h_33,hp⟩
    ·try simp at h_33
     cases hp
     try simp [q_20,h_21,h_22,h_33]
     refine zae ?_
     rw [I_16_]
     exact ⟨by simp [zac,zaa,q_20,h_21,h_22,h_33],NoBox.restrict (by intro k hk hb;simp at hk hb;simp [hk,hb,q_20,h_21,h_22,h_33,hn_19 k (by simp [hk,hb])])⟩
    ·try simp at h_33
     cases hp
     try simp [q_20,h_21,h_22,h_33]
     refine zae ?_
     rw [I_16_]
     exact ⟨by simp [zac,zaa,q_20,h_21,h_22,h_33],NoBox.restrict (by intro k hk hb;simp at hk hb;simp [hk,hb,q_20,h_21,h_22,h_33,hn_19 k (by simp [hk,hb])])⟩
  ·try simp at h_21
   cases hp
   try simp [q_20,h_21]
   refine zag ?_
   rw [X_17_]
   exact ⟨_,rfl,by simp [zac,zaa,q_20,h_21],NoBox.restrict (by intro k hk hb;simp at hk hb;simp [hk,hb,q_20,h_21,hn_19 k (by simp [hk,hb])])⟩
 ·intro out hX
  rw [X_17_] at hX
  obtain ⟨σ_36,rfl,q_38,hn_37⟩:=hX
  cases hp
  simp [Goal,FnEnd,retR,rsrc,RSrc.val,nodupR,nodup,tupPart,q_38]
theorem pc60:PC Tryz.prog 60 C60:=pc_of (g:=g60) (zai _ g60_s.2.1 ⟨pc102,trivial⟩) (ent Tryz.func60) fun x y h=>w60 h

def C103:List AV→Option AV:=specP (X:=TStructure × Int × Int × Unit) fun x=>zbo x.1 x.2.1 x.2.2.1
theorem zjn {s i j} {y} (h:zbo s i j=some y):C103 [av .shr s,av .shr i,av .shr j]=some (Res.res y):=zah (x:=(s,i,j,())) h
def g103:Cfg:={ P:=Tryz.prog,take:=[],keep:=[],gho:=[],ctx:=[(66,C66)] }
@[simp] theorem g103_s:type_of% (cfg_s (g:=g103) rfl):=cfg_s rfl
theorem w103 {s i j} {y} (hp:zbo s i j=some y):∃ m,callo g103 0 103 [av .shr s,av .shr i,av .shr j] mem0=some (Res.res y,m):=by
 refine st0 [.tmp 6] Tryz.func103 ?_
 unfold zbo at hp
 obtain ⟨y_1,h_2,hp⟩:=zab hp
 have c_3:=zfw h_2
 simp at c_3
 simp [Tryz.f103,c_3]
 rcases zad hp with ⟨h_4,hp⟩|⟨h_4,hp⟩
 ·try simp at h_4
  obtain ⟨y_5,h_6,hp⟩:=zab hp
  have c_7:=zfw h_6
  simp at c_7
  try simp [h_4,c_7]
  rcases zad hp with ⟨h_8,hp⟩|⟨h_8,hp⟩
  ·try simp at h_8
   try simp [h_4,h_8]
   rcases zad hp with ⟨h_9,hp⟩|⟨h_9,hp⟩
   ·try simp at h_9
    cases hp
    simp [Goal,FnEnd,h_4,h_8,h_9]
   ·try simp at h_9
    obtain ⟨e_10,h_11,hp⟩:=zab hp
    have b_12:=at_lo h_11
    have b_13:=at_hi h_11
    try simp at b_12 b_13
    have c_14:=seg_at' h_11 0 1 (by decide) (ds:=[.sc (.int .i64 e_10)]) rfl
    try simp at c_14
    cases hp
    simp [Goal,FnEnd,h_4,h_8,h_9,b_12,b_13,c_14]
  ·try simp at h_8
   cases hp
   simp [Goal,FnEnd,h_4,h_8]
 ·try simp at h_4
  cases hp
  simp [Goal,FnEnd,h_4]
theorem pc103:PC Tryz.prog 103 C103:=pc_of (g:=g103) (zai _ g103_s.2.1 ⟨pc66,trivial⟩) (ent Tryz.func103) fun x y h=>w103 h

def C104:List AV→Option AV:=specP (X:=Int × Int × Unit) fun x=>zfy x.1 x.2.1
theorem C104_eq {a_ b_} {y} (h:zfy a_ b_=some y):C104 [av .shr a_,av .shr b_]=some (Res.res y):=zah (x:=(a_,b_,())) h
def g104:Cfg:={ P:=Tryz.prog,take:=[],keep:=[],gho:=[],ctx:=[(73,C73)] }
@[simp] theorem g104_s:type_of% (cfg_s (g:=g104) rfl):=cfg_s rfl
theorem w104 {a_ b_} {y} (hp:zfy a_ b_=some y):∃ m,callo g104 0 104 [av .shr a_,av .shr b_] mem0=some (Res.res y,m):=by
 refine st0 [.tmp 4] Tryz.func104 ?_
 unfold zfy at hp
 simp [Tryz.f104]
 rcases zad hp with ⟨h_1,hp⟩|⟨h_1,hp⟩
 ·try simp at h_1
  cases hp
  simp [Goal,FnEnd,h_1]
 ·try simp at h_1
  obtain ⟨y_2,h_3,hp⟩:=zab hp
  have c_4:=zpx h_3
  simp at c_4
  try simp [h_1,c_4]
  rcases zad hp with ⟨h_5,hp⟩|⟨h_5,hp⟩
  ·try simp at h_5
   cases hp
   simp [Goal,FnEnd,h_1,h_5]
  ·try simp at h_5
   cases hp
   simp [Goal,FnEnd,h_1,h_5]
theorem pc104:PC Tryz.prog 104 C104:=pc_of (g:=g104) (zai _ g104_s.2.1 ⟨pc73,trivial⟩) (ent Tryz.func104) fun x y h=>w104 h

def C61:List AV→Option AV:=specP (X:=TStructure × (List Int) × (List Int) × Unit) fun x=>zeq x.1 x.2.1 x.2.2.1
theorem C61_eq {s a_ b_} {y} (h:zeq s a_ b_=some y):C61 [av .shr s,av .shr a_,av .shr b_]=some (Res.res y):=zah (x:=(s,a_,b_,())) h
def g61:Cfg:={ P:=Tryz.prog,take:=[],keep:=[((61,3),{ hd:=[1,2,3,7,8],bx:=[],ex:=[7],rt:=[6] }),((61,6),{ hd:=[1,2,3,7,8,9],bx:=[],ex:=[1,2,3,7,8],rt:=[6] })],gho:=[],ctx:=[(103,C103),(104,C104)] }
@[simp] theorem g61_s:type_of% (cfg_s (g:=g61) rfl):=cfg_s rfl
theorem w61 {s a_ b_} {y} (hp:zeq s a_ b_=some y):∃ m,callo g61 0 61 [av .shr s,av .shr a_,av .shr b_] mem0=some (Res.res y,m):=by
 refine st0 [.tmp 6] Tryz.func61 ?_
 unfold zeq at hp
 obtain ⟨e_1,h_2,hp⟩:=zab hp
 have b_4:=at_hi h_2
 try simp at b_4
 have c_5:=seg_at' h_2 0 1 (by decide) (ds:=[.sc (.int .i64 e_1)]) rfl
 try simp at c_5
 obtain ⟨e_6,h_7,hp⟩:=zab hp
 have b_9:=at_hi h_7
 try simp at b_9
 have c_10:=seg_at' h_7 0 1 (by decide) (ds:=[.sc (.int .i64 e_6)]) rfl
 try simp at c_10
 obtain ⟨y_11,h_12,hp⟩:=zab hp
 have c_13:=zjn h_12
 simp at c_13
 simp [Tryz.f61,b_4,c_5,b_9,c_10,c_13]
 obtain ⟨r_51,h_52,hp⟩:=zab hp
 obtain ⟨I_16,I_16_⟩:=exV fun (s_14:Int × Int) (σ:St)=>(σ.env 1=uL .shr a_∧σ.env 2=uL .shr b_∧σ.env 3=uP (1,3)∧σ.env 7=uI s_14.1∧σ.env 8=uI s_14.2∧σ.mem (1,3)=some [cL .shr s.nodes,cL .shr s.next])∧NoBox [(1,3)] σ.mem
 obtain ⟨X_17,X_17_⟩:=exV fun (r_51:Int) (out:Out)=>∃ σ:St,out=.exit 0 σ∧(σ.env 7=uI r_51∧σ.mem (1,3)=some [cL .shr s.nodes,cL .shr s.next])∧NoBox [(1,3)] σ.mem
 refine loopP ({ hd:=[1,2,3,7,8],bx:=[],ex:=[7],rt:=[6] }) I_16 X_17 h_52 (by exact rfl) ?_ ?_ ?_
 ·rw [I_16_]
  exact ⟨by simp [zac,zaa],NoBox.restrict (by intro k hk hb;simp at hk hb;simp [hk,hb])⟩
 ·intro s_14 σ_18 a_15 hI hp
  rw [I_16_] at hI
  obtain ⟨q_20,hn_19⟩:=hI
  try simp [q_20]
  rcases zad hp with ⟨h_21,hp⟩|⟨h_21,hp⟩
  ·try simp at h_21
   try simp [q_20,h_21]
   obtain ⟨r_46,h_47,hp⟩:=zab hp
   obtain ⟨I_24,I_24_⟩:=exV fun (s_22:Int × Int) (σ:St)=>(σ.env 1=uL .shr a_∧σ.env 2=uL .shr b_∧σ.env 3=uP (1,3)∧σ.env 7=uI s_22.1∧σ.env 8=uI s_14.2∧σ.env 9=uI s_22.2∧σ.mem (1,3)=some [cL .shr s.nodes,cL .shr s.next])∧NoBox [(1,3)] σ.mem
   obtain ⟨X_25,X_25_⟩:=exV fun (r_46:Int) (out:Out)=>∃ σ:St,out=.exit 2 σ∧(σ.env 1=uL .shr a_∧σ.env 2=uL .shr b_∧σ.env 3=uP (1,3)∧σ.env 7=uI r_46∧σ.env 8=uI s_14.2∧σ.mem (1,3)=some [cL .shr s.nodes,cL .shr s.next])∧NoBox [(1,3)] σ.mem
   refine loopP ({ hd:=[1,2,3,7,8,9],bx:=[],ex:=[1,2,3,7,8],rt:=[6] }) I_24 X_25 h_47 (by exact rfl) ?_ ?_ ?_
   ·rw [I_24_]
    exact ⟨by simp [zac,zaa,q_20,h_21],NoBox.restrict (by intro k hk hb;simp at hk hb;simp [hk,hb,q_20,h_21,hn_19 k (by simp [hk,hb])])⟩
   ·intro s_22 σ_26 a_23 hI hp
    rw [I_24_] at hI
    obtain ⟨q_28,hn_27⟩:=hI
    try simp [h_21,q_28]
    rcases zad hp with ⟨h_29,hp⟩|⟨h_29,hp⟩
    ·try simp at h_29
     obtain ⟨e_30,h_31,hp⟩:=zab hp
     have b_32:=at_lo h_31
     have b_33:=at_hi h_31
     try simp at b_32 b_33
     have c_34:=seg_at' h_31 0 1 (by decide) (ds:=[.sc (.int .i64 e_30)]) rfl
     try simp at c_34
     obtain ⟨e_35,h_36,hp⟩:=zab hp
     have b_37:=at_lo h_36
     have b_38:=at_hi h_36
     try simp at b_37 b_38
     have c_39:=seg_at' h_36 0 1 (by decide) (ds:=[.sc (.int .i64 e_35)]) rfl
     try simp at c_39
     obtain ⟨y_40,h_41,hp⟩:=zab hp
     have c_42:=zjn h_41
     simp at c_42
     obtain ⟨y_43,h_44,hp⟩:=zab hp
     have c_45:=C104_eq h_44
     simp at c_45
     cases hp
     try simp [h_21,q_28,h_29,b_32,b_33,c_34,b_37,b_38,c_39,c_42,c_45]
     refine zae ?_
     rw [I_24_]
     exact ⟨by simp [zac,zaa,h_21,q_28,h_29,b_32,b_33,c_34,b_37,b_38,c_39,c_42,c_45],NoBox.restrict (by intro k hk hb;simp at hk hb;simp [hk,hb,h_21,q_28,h_29,b_32,b_33,c_34,b_37,b_38,c_39,c_42,c_45,hn_27 k (by simp [hk,hb])])⟩
    ·try simp at h_29
     cases hp
     try simp [h_21,q_28,h_29]
     refine zag ?_
     rw [X_25_]
     exact ⟨_,rfl,by simp [zac,zaa,h_21,q_28,h_29],NoBox.restrict (by intro k hk hb;simp at hk hb;simp [hk,hb,h_21,q_28,h_29,hn_27 k (by simp [hk,hb])])⟩
   ·intro out hX
    rw [X_25_] at hX
    obtain ⟨σ_48,rfl,q_50,hn_49⟩:=hX
    cases hp
    try simp [h_21,q_50]
    refine zae ?_
    rw [I_16_]
    exact ⟨by simp [zac,zaa,h_21,q_50],NoBox.restrict (by intro k hk hb;simp at hk hb;simp [hk,hb,h_21,q_50,hn_49 k (by simp [hk,hb])])⟩
  ·try simp at h_21
   cases hp
   try simp [q_20,h_21]
   refine zag ?_
   rw [X_17_]
   exact ⟨_,rfl,by simp [zac,zaa,q_20,h_21],NoBox.restrict (by intro k hk hb;simp at hk hb;simp [hk,hb,q_20,h_21,hn_19 k (by simp [hk,hb])])⟩
 ·intro out hX
  rw [X_17_] at hX
  obtain ⟨σ_53,rfl,q_55,hn_54⟩:=hX
  cases hp
  simp [Goal,FnEnd,q_55]
theorem pc61:PC Tryz.prog 61 C61:=pc_of (g:=g61) (zai _ g61_s.2.1 ⟨pc103,pc104,trivial⟩) (ent Tryz.func61) fun x y h=>w61 h

def C25:List AV→Option AV:=specP (X:=TStructure × Unit) fun x=>zgv x.1
theorem C25_eq {s} {y} (h:zgv s=some y):C25 [av .shr s]=some (Res.res y):=zah (x:=(s,())) h
def g25:Cfg:={ P:=Tryz.prog,take:=[(25,29),(25,46),(25,60)],keep:=[((25,8),{ hd:=[1,2,3,4,5],bx:=[],ex:=[2,4],rt:=[2] }),((25,12),{ hd:=[1,2,3,4,5,6],bx:=[],ex:=[1,2,3,4,5],rt:=[2] })],gho:=[],ctx:=[(32,C32),(57,C57),(58,C58),(59,C59),(60,C60),(61,C61)] }
@[simp] theorem g25_s:type_of% (cfg_s (g:=g25) rfl):=cfg_s rfl
theorem w25 {s} {y} (hp:zgv s=some y):∃ m,callo g25 0 25 [av .shr s] mem0=some (Res.res y,m):=by
 refine st0 [.cell 2 32] Tryz.func25 ?_
 unfold zgv at hp
 simp [Tryz.f25]
 rcases zad hp with ⟨h_1,hp⟩|⟨h_1,hp⟩
 ·try simp at h_1
  cases hp
  simp [Goal,FnEnd,retR,rsrc,RSrc.val,nodupR,nodup,tupPart,h_1]
 ·try simp at h_1
  obtain ⟨y_2,h_3,hp⟩:=zab hp
  have c_4:=C57_eq h_3
  simp at c_4
  obtain ⟨y_5,h_6,hp⟩:=zab hp
  have c_7:=C32_eq h_6
  simp at c_7
  try simp [h_1,c_4,c_7]
  rcases zad hp with ⟨h_8,hp⟩|⟨h_8,hp⟩
  ·try simp at h_8
   obtain ⟨y_9,h_10,hp⟩:=zab hp
   have c_11:=C59_eq h_10
   simp at c_11
   try simp [h_1,h_8,c_11]
   obtain ⟨r_58,h_59,hp⟩:=zab hp
   obtain ⟨I_14,I_14_⟩:=exV fun (s_12:Int × (List TNode) × (List Int)) (σ:St)=>(σ.env 1=uP (1,1)∧σ.env 2=uP (1,2)∧σ.env 3=uL .shr y_9∧σ.env 4=uP (1,4)∧σ.env 5=uI s_12.1∧σ.mem (1,1)=some [cL .shr s.nodes,cL .shr s.next]∧σ.mem (1,2)=some [.l .own 0 [],.l .own 0 []]∧σ.mem (1,4)=some [cL .own s_12.2.1,cL .own s_12.2.2])∧NoBox [(1,1),(1,2),(1,4)] σ.mem
   obtain ⟨X_15,X_15_⟩:=exV fun (r_58:(List TNode) × (List Int)) (out:Out)=>∃ σ:St,out=.exit 0 σ∧(σ.env 2=uP (1,2)∧σ.env 4=uP (1,4)∧σ.mem (1,1)=some [cL .shr s.nodes,cL .shr s.next]∧σ.mem (1,2)=some [.l .own 0 [],.l .own 0 []]∧σ.mem (1,4)=some [cL .own r_58.1,cL .own r_58.2])∧NoBox [(1,1),(1,2),(1,4)] σ.mem
   refine loopP ({ hd:=[1,2,3,4,5],bx:=[],ex:=[2,4],rt:=[2] }) I_14 X_15 h_59 (by exact rfl) ?_ ?_ ?_
   ·rw [I_14_]
    exact ⟨by simp [zac,zaa,h_1,h_8],NoBox.restrict (by intro k hk hb;simp at hk hb;simp [hk,hb,h_1,h_8])⟩
   ·intro s_12 σ_16 a_13 hI hp
    rw [I_14_] at hI
    obtain ⟨q_18,hn_17⟩:=hI
    try simp [h_1,h_8,q_18]
    rcases zad hp with ⟨h_19,hp⟩|⟨h_19,hp⟩
    ·try simp at h_19
     obtain ⟨e_20,h_21,hp⟩:=zab hp
     have b_22:=at_lo h_21
     have b_23:=at_hi h_21
     try simp at b_22 b_23
     have c_24:=seg_at' h_21 0 1 (by decide) (ds:=[.sl e_20.length (encL e_20)]) rfl
     try simp at c_24
     obtain ⟨y_25,h_26,hp⟩:=zab hp
     have c_27:=C60_eq h_26
     simp at c_27
     obtain ⟨_,h_28,hp⟩:=zab hp
     have b_29:=zap h_28
     try simp at b_29
     try simp [h_1,h_8,q_18,h_19,b_22,b_23,c_24,c_27,b_29]
     obtain ⟨r_53,h_54,hp⟩:=zab hp
     obtain ⟨I_32,I_32_⟩:=exV fun (s_30:Int × (List Int)) (σ:St)=>(σ.env 1=uP (1,1)∧σ.env 2=uP (1,2)∧σ.env 3=uL .shr y_9∧σ.env 4=uP (1,4)∧σ.env 5=uI s_12.1∧σ.env 6=uI s_30.1∧σ.mem (1,1)=some [cL .shr s.nodes,cL .shr s.next]∧σ.mem (1,2)=some [.l .own 0 [],.l .own 0 []]∧σ.mem (1,4)=some [cL .own (s_12.2.1 ++ [y_25]),cL .own s_30.2])∧NoBox [(1,1),(1,2),(1,4)] σ.mem
     obtain ⟨X_33,X_33_⟩:=exV fun (r_53:(List Int)) (out:Out)=>∃ σ:St,out=.exit 2 σ∧(σ.env 1=uP (1,1)∧σ.env 2=uP (1,2)∧σ.env 3=uL .shr y_9∧σ.env 4=uP (1,4)∧σ.env 5=uI s_12.1∧σ.mem (1,1)=some [cL .shr s.nodes,cL .shr s.next]∧σ.mem (1,2)=some [.l .own 0 [],.l .own 0 []]∧σ.mem (1,4)=some [cL .own (s_12.2.1 ++ [y_25]),cL .own r_53])∧NoBox [(1,1),(1,2),(1,4)] σ.mem
     refine loopP ({ hd:=[1,2,3,4,5,6],bx:=[],ex:=[1,2,3,4,5],rt:=[2] }) I_32 X_33 h_54 (by exact rfl) ?_ ?_ ?_
     ·rw [I_32_]
      exact ⟨by simp [zac,zaa,h_1,h_8,q_18,h_19],NoBox.restrict (by intro k hk hb;simp at hk hb;simp [hk,hb,h_1,h_8,q_18,h_19,hn_17 k (by simp [hk,hb])])⟩
     ·intro s_30 σ_34 a_31 hI hp
      rw [I_32_] at hI
      obtain ⟨q_36,hn_35⟩:=hI
      try simp [h_1,h_8,h_19,q_36]
      rcases zad hp with ⟨h_37,hp⟩|⟨h_37,hp⟩
      ·try simp at h_37
       obtain ⟨e_38,h_39,hp⟩:=zab hp
       cases Option.some.inj (h_21.symm.trans h_39)
       have b_40:=at_lo h_21
       have b_41:=at_hi h_21
       try simp at b_40 b_41
       have c_42:=seg_at' h_21 0 1 (by decide) (ds:=[.sl e_20.length (encL e_20)]) rfl
       try simp at c_42
       obtain ⟨e_43,h_44,hp⟩:=zab hp
       have b_45:=at_lo h_44
       have b_46:=at_hi h_44
       try simp at b_45 b_46
       have c_47:=seg_at' h_44 0 1 (by decide) (ds:=[.sl e_43.length (encL e_43)]) rfl
       try simp at c_47
       obtain ⟨y_48,h_49,hp⟩:=zab hp
       have c_50:=C61_eq h_49
       simp at c_50
       obtain ⟨_,h_51,hp⟩:=zab hp
       have b_52:=zap h_51
       try simp at b_52
       cases hp
       try simp [h_1,h_8,h_19,q_36,h_37,b_40,b_41,c_42,b_45,b_46,c_47,c_50,b_52]
       refine zae ?_
       rw [I_32_]
       exact ⟨by simp [zac,zaa,h_1,h_8,h_19,q_36,h_37,b_40,b_41,c_42,b_45,b_46,c_47,c_50,b_52],NoBox.restrict (by intro k hk hb;simp at hk hb;simp [hk,hb,h_1,h_8,h_19,q_36,h_37,b_40,b_41,c_42,b_45,b_46,c_47,c_50,b_52,hn_35 k (by simp [hk,hb])])⟩
      ·try simp at h_37
       cases hp
       try simp [h_1,h_8,h_19,q_36,h_37]
       refine zag ?_
       rw [X_33_]
       exact ⟨_,rfl,by simp [zac,zaa,h_1,h_8,h_19,q_36,h_37],NoBox.restrict (by intro k hk hb;simp at hk hb;simp [hk,hb,h_1,h_8,h_19,q_36,h_37,hn_35 k (by simp [hk,hb])])⟩
     ·intro out hX
      rw [X_33_] at hX
      obtain ⟨σ_55,rfl,q_57,hn_56⟩:=hX
      cases hp
      try simp [h_1,h_8,h_19,q_57]
      refine zae ?_
      rw [I_14_]
      exact ⟨by simp [zac,zaa,h_1,h_8,h_19,q_57],NoBox.restrict (by intro k hk hb;simp at hk hb;simp [hk,hb,h_1,h_8,h_19,q_57,hn_56 k (by simp [hk,hb])])⟩
    ·try simp at h_19
     cases hp
     try simp [h_1,h_8,q_18,h_19]
     refine zag ?_
     rw [X_15_]
     exact ⟨_,rfl,by simp [zac,zaa,h_1,h_8,q_18,h_19],NoBox.restrict (by intro k hk hb;simp at hk hb;simp [hk,hb,h_1,h_8,q_18,h_19,hn_17 k (by simp [hk,hb])])⟩
   ·intro out hX
    rw [X_15_] at hX
    obtain ⟨σ_60,rfl,q_62,hn_61⟩:=hX
    cases hp
    simp [Goal,FnEnd,retR,rsrc,RSrc.val,nodupR,nodup,tupPart,h_1,h_8,q_62]
  ·try simp at h_8
   obtain ⟨y_63,h_64,hp⟩:=zab hp
   have c_65:=zpy h_64
   simp at c_65
   cases hp
   simp [Goal,FnEnd,retR,rsrc,RSrc.val,nodupR,nodup,tupPart,h_1,h_8,c_65]
theorem pc25:PC Tryz.prog 25 C25:=pc_of (g:=g25) (zai _ g25_s.2.1 ⟨pc32,pc57,pc58,pc59,pc60,pc61,trivial⟩) (ent Tryz.func25) fun x y h=>w25 h

def C29:List AV→Option AV:=specP (X:=THeap × Unit) fun x=>zch x.1
theorem C29_eq {h_} {y} (h:zch h_=some y):C29 [av .shr h_]=some (Res.res y):=zah (x:=(h_,())) h
def g29:Cfg:={ P:=Tryz.prog,take:=[],keep:=[],gho:=[],ctx:=[(25,C25),(45,C45)] }
@[simp] theorem g29_s:type_of% (cfg_s (g:=g29) rfl):=cfg_s rfl
theorem w29 {h_} {y} (hp:zch h_=some y):∃ m,callo g29 0 29 [av .shr h_] mem0=some (Res.res y,m):=by
 refine st0 [.cell 2 32] Tryz.func29 ?_
 unfold zch at hp
 obtain ⟨y_1,h_2,hp⟩:=zab hp
 have c_3:=C45_eq h_2
 simp at c_3
 obtain ⟨y_4,h_5,hp⟩:=zab hp
 have c_6:=C25_eq h_5
 simp at c_6
 cases hp
 simp [Tryz.f29,Goal,FnEnd,retR,rsrc,RSrc.val,nodupR,nodup,tupPart,c_3,c_6]
theorem pc29:PC Tryz.prog 29 C29:=pc_of (g:=g29) (zai _ g29_s.2.1 ⟨pc25,pc45,trivial⟩) (ent Tryz.func29) fun x y h=>w29 h

def C167:List AV→Option AV:=specP (X:=ByteArray × Unit) fun x=>zfk x.1
theorem C167_eq {s} {y} (h:zfk s=some y):C167 [av .shr s]=some (Res.res y):=zah (x:=(s,())) h
def g167:Cfg:={ P:=Tryz.prog,take:=[],keep:=[((167,2),{ hd:=[0,3],bx:=[],ex:=[0],rt:=[2] })],gho:=[],ctx:=[(66,C66)] }
@[simp] theorem g167_s:type_of% (cfg_s (g:=g167) rfl):=cfg_s rfl
theorem w167 {s} {y} (hp:zfk s=some y):∃ m,callo g167 0 167 [av .shr s] mem0=some (Res.res y,m):=by
 refine st0 [.tmp 2] Tryz.func167 ?_
 unfold zfk at hp
 simp [Tryz.f167]
 obtain ⟨r_15,h_16,hp⟩:=zab hp
 obtain ⟨I_3,I_3_⟩:=exV fun (s_1:Int) (σ:St)=>(σ.env 0=.one (.s (.string s))∧σ.env 3=uI s_1)∧σ.mem=mem0
 obtain ⟨X_4,X_4_⟩:=exV fun (r_15:(Unit) ⊕ (Unit)) (out:Out)=>Sum.elim (fun r_15=>∃ σ:St,out=.ret σ∧σ.env 2=uB false∧σ.mem=mem0) (fun r_15=>∃ σ:St,out=.exit 0 σ∧σ.env 0=.one (.s (.string s))∧σ.mem=mem0) r_15
 refine loopP ({ hd:=[0,3],bx:=[],ex:=[0],rt:=[2] }) I_3 X_4 h_16 (by exact rfl) ?_ ?_ ?_
 ·rw [I_3_]
  exact ⟨by simp [zac,zaa],by simp [zaa]⟩
 ·intro s_1 σ_5 a_2 hI hp
  rw [I_3_] at hI
  obtain ⟨q_7,q_6⟩:=hI
  try simp [q_7,q_6]
  rcases zad hp with ⟨h_8,hp⟩|⟨h_8,hp⟩
  ·try simp at h_8
   obtain ⟨e_9,h_10,hp⟩:=zab hp
   have c_11:=idx_str Tryz.underlying9 h_10
   try simp [q_7,q_6,h_8,c_11]
   rcases zad hp with ⟨h_12,hp⟩|⟨h_12,hp⟩
   ·try simp at h_12
    cases hp
    try simp [q_7,q_6,h_8,h_12]
    refine zal ?_
    rw [X_4_]
    exact ⟨_,rfl,by simp [zac,zaa,q_7,q_6,h_8,h_12],by simp [zaa,q_7,q_6,h_8,h_12]⟩
   ·try simp at h_12
    obtain ⟨_,h_13,hp⟩:=zab hp
    cases Option.some.inj (h_10.symm.trans h_13)
    try simp [q_7,q_6,h_8,h_12,c_11]
    rcases zad hp with ⟨h_14,hp⟩|⟨h_14,hp⟩
    ·try simp at h_14
     cases hp
     try simp [q_7,q_6,h_8,h_12,h_14]
     refine zal ?_
     rw [X_4_]
     exact ⟨_,rfl,by simp [zac,zaa,q_7,q_6,h_8,h_12,h_14],by simp [zaa,q_7,q_6,h_8,h_12,h_14]⟩
    ·try simp at h_14
     cases hp
     try simp [q_7,q_6,h_8,h_12,h_14]
     refine zae ?_
     rw [I_3_]
     exact ⟨by simp [zac,zaa,q_7,q_6,h_8,h_12,h_14],by simp [zaa,q_7,q_6,h_8,h_12,h_14]⟩
  ·try simp at h_8
   cases hp
   try simp [q_7,q_6,h_8]
   refine zag ?_
   rw [X_4_]
   exact ⟨_,rfl,by simp [zac,zaa,q_7,q_6,h_8],by simp [zaa,q_7,q_6,h_8]⟩
 ·intro out hX
  rw [X_4_] at hX
  rcases r_15 with r_15 | r_15
  ·simp only [Sum.elim_inl,Sum.elim_inr] at hX hp
   obtain ⟨σ_17,rfl,q_19,q_18⟩:=hX
   cases hp
   simp [Goal,FnEnd,q_19,q_18]
  ·simp only [Sum.elim_inl,Sum.elim_inr] at hX hp
   obtain ⟨σ_20,rfl,q_22,q_21⟩:=hX
   obtain ⟨y_23,h_24,hp⟩:=zab hp
   have c_25:=zfw h_24
   simp at c_25
   cases hp
   simp [Goal,FnEnd,q_22,q_21,c_25]
theorem pc167:PC Tryz.prog 167 C167:=pc_of (g:=g167) (zai _ g167_s.2.1 ⟨pc66,trivial⟩) (ent Tryz.func167) fun x y h=>w167 h

def C168:List AV→Option AV:=specP (X:=(List ByteArray) × ByteArray × Unit) fun x=>zer x.1 x.2.1
theorem C168_eq {list s} {y} (h:zer list s=some y):C168 [av .shr list,av .shr s]=some (Res.res y):=zah (x:=(list,s,())) h
def g168:Cfg:={ P:=Tryz.prog,take:=[],keep:=[((168,2),{ hd:=[0,1,5],bx:=[],ex:=[],rt:=[4] })],gho:=[],ctx:=[] }
@[simp] theorem g168_s:type_of% (cfg_s (g:=g168) rfl):=cfg_s rfl
theorem w168 {list s} {y} (hp:zer list s=some y):∃ m,callo g168 0 168 [av .shr list,av .shr s] mem0=some (Res.res y,m):=by
 refine st0 [.tmp 4] Tryz.func168 ?_
 unfold zer at hp
 simp [Tryz.f168]
 obtain ⟨r_15,h_16,hp⟩:=zab hp
 obtain ⟨I_3,I_3_⟩:=exV fun (s_1:Int) (σ:St)=>(σ.env 0=uL .shr list∧σ.env 1=.one (.s (.string s))∧σ.env 5=uI s_1)∧σ.mem=mem0
 obtain ⟨X_4,X_4_⟩:=exV fun (r_15:(Int) ⊕ (Unit)) (out:Out)=>Sum.elim (fun r_15=>∃ σ:St,out=.ret σ∧σ.env 4=uI r_15∧σ.mem=mem0) (fun r_15=>∃ σ:St,out=.exit 0 σ∧σ.mem=mem0) r_15
 refine loopP ({ hd:=[0,1,5],bx:=[],ex:=[],rt:=[4] }) I_3 X_4 h_16 (by exact rfl) ?_ ?_ ?_
 ·rw [I_3_]
  exact ⟨by simp [zac,zaa],by simp [zaa]⟩
 ·intro s_1 σ_5 a_2 hI hp
  rw [I_3_] at hI
  obtain ⟨q_7,q_6⟩:=hI
  try simp [q_7,q_6]
  rcases zad hp with ⟨h_8,hp⟩|⟨h_8,hp⟩
  ·try simp at h_8
   obtain ⟨e_9,h_10,hp⟩:=zab hp
   have b_11:=at_lo h_10
   have b_12:=at_hi h_10
   try simp at b_11 b_12
   have c_13:=seg_at' h_10 0 1 (by decide) (ds:=[.sc (.string e_9)]) rfl
   try simp at c_13
   try simp [q_7,q_6,h_8,b_11,b_12,c_13]
   rcases zad hp with ⟨h_14,hp⟩|⟨h_14,hp⟩
   ·try simp at h_14
    cases hp
    try simp [q_7,q_6,h_8,h_14]
    refine zal ?_
    rw [X_4_]
    exact ⟨_,rfl,by simp [zac,zaa,q_7,q_6,h_8,h_14],by simp [zaa,q_7,q_6,h_8,h_14]⟩
   ·try simp at h_14
    cases hp
    try simp [q_7,q_6,h_8,h_14]
    refine zae ?_
    rw [I_3_]
    exact ⟨by simp [zac,zaa,q_7,q_6,h_8,h_14],by simp [zaa,q_7,q_6,h_8,h_14]⟩
  ·try simp at h_8
   cases hp
   try simp [q_7,q_6,h_8]
   refine zag ?_
   rw [X_4_]
   exact ⟨_,rfl,by simp [zaa,q_7,q_6,h_8]⟩
 ·intro out hX
  rw [X_4_] at hX
  rcases r_15 with r_15 | r_15
  ·simp only [Sum.elim_inl,Sum.elim_inr] at hX hp
   obtain ⟨σ_17,rfl,q_19,q_18⟩:=hX
   cases hp
   simp [Goal,FnEnd,q_19,q_18]
  ·simp only [Sum.elim_inl,Sum.elim_inr] at hX hp
   obtain ⟨σ_20,rfl,q_21⟩:=hX
   cases hp
   simp [Goal,FnEnd,q_21]
theorem pc168:PC Tryz.prog 168 C168:=pc_of (g:=g168) (zai [] rfl trivial) (ent Tryz.func168) fun x y h=>w168 h

def C159:List AV→Option AV:=specP (X:=(List ByteArray) × Unit) fun x=>zdo x.1
theorem C159_eq {list} {y} (h:zdo list=some y):C159 [av .shr list]=some (Res.res y):=zah (x:=(list,())) h
def g159:Cfg:={ P:=Tryz.prog,take:=[],keep:=[((159,2),{ hd:=[0,3],bx:=[],ex:=[0],rt:=[2] })],gho:=[],ctx:=[(66,C66),(167,C167),(168,C168)] }
@[simp] theorem g159_s:type_of% (cfg_s (g:=g159) rfl):=cfg_s rfl
theorem w159 {list} {y} (hp:zdo list=some y):∃ m,callo g159 0 159 [av .shr list] mem0=some (Res.res y,m):=by
 refine st0 [.tmp 2] Tryz.func159 ?_
 unfold zdo at hp
 simp [Tryz.f159]
 obtain ⟨r_27,h_28,hp⟩:=zab hp
 obtain ⟨I_3,I_3_⟩:=exV fun (s_1:Int) (σ:St)=>(σ.env 0=uL .shr list∧σ.env 3=uI s_1)∧σ.mem=mem0
 obtain ⟨X_4,X_4_⟩:=exV fun (r_27:(Unit) ⊕ (Unit)) (out:Out)=>Sum.elim (fun r_27=>∃ σ:St,out=.ret σ∧σ.env 2=uB false∧σ.mem=mem0) (fun r_27=>∃ σ:St,out=.exit 0 σ∧σ.env 0=uL .shr list∧σ.mem=mem0) r_27
 refine loopP ({ hd:=[0,3],bx:=[],ex:=[0],rt:=[2] }) I_3 X_4 h_28 (by exact rfl) ?_ ?_ ?_
 ·rw [I_3_]
  exact ⟨by simp [zac,zaa],by simp [zaa]⟩
 ·intro s_1 σ_5 a_2 hI hp
  rw [I_3_] at hI
  obtain ⟨q_7,q_6⟩:=hI
  try simp [q_7,q_6]
  rcases zad hp with ⟨h_8,hp⟩|⟨h_8,hp⟩
  ·try simp at h_8
   obtain ⟨e_9,h_10,hp⟩:=zab hp
   have b_11:=at_lo h_10
   have b_12:=at_hi h_10
   try simp at b_11 b_12
   have c_13:=seg_at' h_10 0 1 (by decide) (ds:=[.sc (.string e_9)]) rfl
   try simp at c_13
   obtain ⟨y_14,h_15,hp⟩:=zab hp
   have c_16:=C167_eq h_15
   simp at c_16
   try simp [q_7,q_6,h_8,b_11,b_12,c_13,c_16]
   rcases zad hp with ⟨h_17,hp⟩|⟨h_17,hp⟩
   ·try simp at h_17
    obtain ⟨e_18,h_19,hp⟩:=zab hp
    cases Option.some.inj (h_10.symm.trans h_19)
    have b_20:=at_lo h_10
    have b_21:=at_hi h_10
    try simp at b_20 b_21
    have c_22:=seg_at' h_10 0 1 (by decide) (ds:=[.sc (.string e_9)]) rfl
    try simp at c_22
    obtain ⟨y_23,h_24,hp⟩:=zab hp
    have c_25:=C168_eq h_24
    simp at c_25
    try simp [q_7,q_6,h_8,h_17,b_20,b_21,c_22,c_25]
    rcases zad hp with ⟨h_26,hp⟩|⟨h_26,hp⟩
    ·try simp at h_26
     cases hp
     try simp [q_7,q_6,h_8,h_17,h_26]
     refine zal ?_
     rw [X_4_]
     exact ⟨_,rfl,by simp [zac,zaa,q_7,q_6,h_8,h_17,h_26],by simp [zaa,q_7,q_6,h_8,h_17,h_26]⟩
    ·try simp at h_26
     cases hp
     try simp [q_7,q_6,h_8,h_17,h_26]
     refine zae ?_
     rw [I_3_]
     exact ⟨by simp [zac,zaa,q_7,q_6,h_8,h_17,h_26],by simp [zaa,q_7,q_6,h_8,h_17,h_26]⟩
   ·try simp at h_17
    cases hp
    try simp [q_7,q_6,h_8,h_17]
    refine zal ?_
    rw [X_4_]
    exact ⟨_,rfl,by simp [zac,zaa,q_7,q_6,h_8,h_17],by simp [zaa,q_7,q_6,h_8,h_17]⟩
  ·try simp at h_8
   cases hp
   try simp [q_7,q_6,h_8]
   refine zag ?_
   rw [X_4_]
   exact ⟨_,rfl,by simp [zac,zaa,q_7,q_6,h_8],by simp [zaa,q_7,q_6,h_8]⟩
 ·intro out hX
  rw [X_4_] at hX
  rcases r_27 with r_27 | r_27
  ·simp only [Sum.elim_inl,Sum.elim_inr] at hX hp
   obtain ⟨σ_29,rfl,q_31,q_30⟩:=hX
   cases hp
   simp [Goal,FnEnd,q_31,q_30]
  ·simp only [Sum.elim_inl,Sum.elim_inr] at hX hp
   obtain ⟨σ_32,rfl,q_34,q_33⟩:=hX
   obtain ⟨y_35,h_36,hp⟩:=zab hp
   have c_37:=zfw h_36
   simp at c_37
   cases hp
   simp [Goal,FnEnd,q_34,q_33,c_37]
theorem pc159:PC Tryz.prog 159 C159:=pc_of (g:=g159) (zai _ g159_s.2.1 ⟨pc66,pc167,pc168,trivial⟩) (ent Tryz.func159) fun x y h=>w159 h

def C169:List AV→Option AV:=specP (X:=(List Int) × Unit) fun x=>zdm x.1
theorem C169_eq {list} {y} (h:zdm list=some y):C169 [av .shr list]=some (Res.res y):=zah (x:=(list,())) h
def g169:Cfg:={ P:=Tryz.prog,take:=[],keep:=[((169,3),{ hd:=[0,3,4],bx:=[],ex:=[3],rt:=[2] })],gho:=[],ctx:=[(68,C68)] }
@[simp] theorem g169_s:type_of% (cfg_s (g:=g169) rfl):=cfg_s rfl
theorem w169 {list} {y} (hp:zdm list=some y):∃ m,callo g169 0 169 [av .shr list] mem0=some (Res.res y,m):=by
 refine st0 [.tmp 2] Tryz.func169 ?_
 unfold zdm at hp
 simp [Tryz.f169]
 obtain ⟨r_20,h_21,hp⟩:=zab hp
 obtain ⟨I_3,I_3_⟩:=exV fun (s_1:ByteArray × Int) (σ:St)=>(σ.env 0=uL .shr list∧σ.env 3=.one (.s (.string s_1.1))∧σ.env 4=uI s_1.2)∧σ.mem=mem0
 obtain ⟨X_4,X_4_⟩:=exV fun (r_20:ByteArray) (out:Out)=>∃ σ:St,out=.exit 0 σ∧σ.env 3=.one (.s (.string r_20))∧σ.mem=mem0
 refine loopP ({ hd:=[0,3,4],bx:=[],ex:=[3],rt:=[2] }) I_3 X_4 h_21 (by exact rfl) ?_ ?_ ?_
 ·rw [I_3_]
  exact ⟨by simp [zac,zaa],by simp [zaa]⟩
 ·intro s_1 σ_5 a_2 hI hp
  rw [I_3_] at hI
  obtain ⟨q_7,q_6⟩:=hI
  try simp [q_7,q_6]
  rcases zad hp with ⟨h_8,hp⟩|⟨h_8,hp⟩
  ·try simp at h_8
   obtain ⟨e_9,h_10,hp⟩:=zab hp
   have b_11:=at_lo h_10
   have b_12:=at_hi h_10
   try simp at b_11 b_12
   have c_13:=seg_at' h_10 0 1 (by decide) (ds:=[.sc (.int .i64 e_9)]) rfl
   try simp at c_13
   obtain ⟨y_14,h_15,hp⟩:=zab hp
   have c_16:=C68_eq h_15
   simp at c_16
   obtain ⟨z_17,h_18,hp⟩:=zab hp
   have c_19:=zhs (P:=Tryz.prog) (t:=9) h_18
   cases hp
   try simp [q_7,q_6,h_8,b_11,b_12,c_13,c_16,c_19]
   refine zae ?_
   rw [I_3_]
   exact ⟨by simp [zac,zaa,q_7,q_6,h_8,b_11,b_12,c_13,c_16,c_19],by simp [zaa,q_7,q_6,h_8,b_11,b_12,c_13,c_16,c_19]⟩
  ·try simp at h_8
   cases hp
   try simp [q_7,q_6,h_8]
   refine zag ?_
   rw [X_4_]
   exact ⟨_,rfl,by simp [zac,zaa,q_7,q_6,h_8],by simp [zaa,q_7,q_6,h_8]⟩
 ·intro out hX
  rw [X_4_] at hX
  obtain ⟨σ_22,rfl,q_24,q_23⟩:=hX
  cases hp
  simp [Goal,FnEnd,q_24,q_23]
theorem pc169:PC Tryz.prog 169 C169:=pc_of (g:=g169) (zai _ g169_s.2.1 ⟨pc68,trivial⟩) (ent Tryz.func169) fun x y h=>w169 h

def C160:List AV→Option AV:=specP (X:=TStructure × Int × Unit) fun x=>zfj x.1 x.2.1
theorem C160_eq {s i} {y} (h:zfj s i=some y):C160 [av .shr s,av .shr i]=some (Res.res y):=zah (x:=(s,i,())) h
def g160:Cfg:={ P:=Tryz.prog,take:=[(160,44),(160,51)],keep:=[((160,7),{ hd:=[1,2,6,7,8],bx:=[],ex:=[6,7],rt:=[4] })],gho:=[],ctx:=[(68,C68),(103,C103),(161,C161),(169,C169),(170,C170)] }
@[simp] theorem g160_s:type_of% (cfg_s (g:=g160) rfl):=cfg_s rfl
theorem w160 {s i} {y} (hp:zfj s i=some y):∃ m,callo g160 0 160 [av .shr s,av .shr i] mem0=some (Res.res y,m):=by
 refine st0 [.tmp 4] Tryz.func160 ?_
 unfold zfj at hp
 obtain ⟨e_1,h_2,hp⟩:=zab hp
 have b_3:=at_lo h_2
 have b_4:=at_hi h_2
 try simp at b_3 b_4
 have c_5:=seg_at' h_2 0 4 (by decide) (ds:=[.sl e_1.vars.length (encL e_1.vars),.sl e_1.reach.length (encL e_1.reach),.sc (.int .i64 e_1.shared),.sc (.int .i64 e_1.many)]) rfl
 try simp at c_5
 obtain ⟨y_6,h_7,hp⟩:=zab hp
 have c_8:=C169_eq h_7
 simp at c_8
 obtain ⟨y_9,h_10,hp⟩:=zab hp
 have c_11:=C169_eq h_10
 simp at c_11
 obtain ⟨z_12,h_13,hp⟩:=zab hp
 have c_14:=zhs (P:=Tryz.prog) (t:=9) h_13
 obtain ⟨y_15,h_16,hp⟩:=zab hp
 have c_17:=C68_eq h_16
 simp at c_17
 obtain ⟨z_18,h_19,hp⟩:=zab hp
 have c_20:=zhs (P:=Tryz.prog) (t:=9) h_19
 simp [Tryz.f160,b_3,b_4,c_5,c_8,c_11,c_14,c_17,c_20]
 rcases zad hp with ⟨h_21,hp⟩|⟨h_21,hp⟩
 ·try simp at h_21
  obtain ⟨z_22,h_23,hp⟩:=zab hp
  have c_24:=zhs (P:=Tryz.prog) (t:=9) h_23
  try simp [h_21,c_24]
  obtain ⟨r_51,h_52,hp⟩:=zab hp
  obtain ⟨I_27,I_27_⟩:=exV fun (s_25:(List ByteArray) × Int) (σ:St)=>(σ.env 1=uI i∧σ.env 2=uP (1,2)∧σ.env 6=.one (.s (.string z_22))∧σ.env 7=uL .own s_25.1∧σ.env 8=uI s_25.2∧σ.mem (1,2)=some [cL .shr s.nodes,cL .shr s.next]∧σ.mem (1,5)=some [cL .shr e_1.vars,cL .shr e_1.reach,cI e_1.shared,cI e_1.many])∧NoBox [(1,2),(1,5)] σ.mem
  obtain ⟨X_28,X_28_⟩:=exV fun (r_51:(List ByteArray)) (out:Out)=>∃ σ:St,out=.exit 0 σ∧(σ.env 6=.one (.s (.string z_22))∧σ.env 7=uL .own r_51∧σ.mem (1,2)=some [cL .shr s.nodes,cL .shr s.next]∧σ.mem (1,5)=some [cL .shr e_1.vars,cL .shr e_1.reach,cI e_1.shared,cI e_1.many])∧NoBox [(1,2),(1,5)] σ.mem
  refine loopP ({ hd:=[1,2,6,7,8],bx:=[],ex:=[6,7],rt:=[4] }) I_27 X_28 h_52 (by exact rfl) ?_ ?_ ?_
  ·rw [I_27_]
   exact ⟨by simp [zac,zaa,h_21],NoBox.restrict (by intro k hk hb;simp at hk hb;simp [hk,hb,h_21])⟩
  ·intro s_25 σ_29 a_26 hI hp
   rw [I_27_] at hI
   obtain ⟨q_31,hn_30⟩:=hI
   try simp [h_21,q_31]
   rcases zad hp with ⟨h_32,hp⟩|⟨h_32,hp⟩
   ·try simp at h_32
    obtain ⟨y_33,h_34,hp⟩:=zab hp
    have c_35:=zjn h_34
    simp at c_35
    try simp [h_21,q_31,h_32,c_35]
    rcases zad hp with ⟨h_36,hp⟩|⟨h_36,hp⟩
    ·try simp at h_36
     obtain ⟨y_37,h_38,hp⟩:=zab hp
     have c_39:=zrn h_38
     simp at c_39
     obtain ⟨_,h_40,hp⟩:=zab hp
     have b_41:=zap h_40
     try simp at b_41
     cases hp
     try simp [h_21,q_31,h_32,h_36,c_39,b_41]
     refine zae ?_
     rw [I_27_]
     exact ⟨by simp [zac,zaa,h_21,q_31,h_32,h_36,c_39,b_41],NoBox.restrict (by intro k hk hb;simp at hk hb;simp [hk,hb,h_21,q_31,h_32,h_36,c_39,b_41,hn_30 k (by simp [hk,hb])])⟩
    ·try simp at h_36
     try simp [h_21,q_31,h_32,h_36]
     rcases zad hp with ⟨h_42,hp⟩|⟨h_42,hp⟩
     ·try simp at h_42
      obtain ⟨y_43,h_44,hp⟩:=zab hp
      have c_45:=zrn h_44
      simp at c_45
      obtain ⟨z_46,h_47,hp⟩:=zab hp
      have c_48:=zhs (P:=Tryz.prog) (t:=9) h_47
      obtain ⟨_,h_49,hp⟩:=zab hp
      have b_50:=zap h_49
      try simp at b_50
      cases hp
      try simp [h_21,q_31,h_32,h_36,h_42,c_45,c_48,b_50]
      refine zae ?_
      rw [I_27_]
      exact ⟨by simp [zac,zaa,h_21,q_31,h_32,h_36,h_42,c_45,c_48,b_50],NoBox.restrict (by intro k hk hb;simp at hk hb;simp [hk,hb,h_21,q_31,h_32,h_36,h_42,c_45,c_48,b_50,hn_30 k (by simp [hk,hb])])⟩
     ·try simp at h_42
      cases hp
      try simp [h_21,q_31,h_32,h_36,h_42]
      refine zae ?_
      rw [I_27_]
      exact ⟨by simp [zac,zaa,h_21,q_31,h_32,h_36,h_42],NoBox.restrict (by intro k hk hb;simp at hk hb;simp [hk,hb,h_21,q_31,h_32,h_36,h_42,hn_30 k (by simp [hk,hb])])⟩
   ·try simp at h_32
    cases hp
    try simp [h_21,q_31,h_32]
    refine zag ?_
    rw [X_28_]
    exact ⟨_,rfl,by simp [zac,zaa,h_21,q_31,h_32],NoBox.restrict (by intro k hk hb;simp at hk hb;simp [hk,hb,h_21,q_31,h_32,hn_30 k (by simp [hk,hb])])⟩
  ·intro out hX
   rw [X_28_] at hX
   obtain ⟨σ_53,rfl,q_55,hn_54⟩:=hX
   try simp [h_21,q_55]
   rcases zad hp with ⟨h_56,hp⟩|⟨h_56,hp⟩
   ·try simp at h_56
    obtain ⟨z_57,h_58,hp⟩:=zab hp
    have c_59:=zhs (P:=Tryz.prog) (t:=9) h_58
    obtain ⟨y_60,h_61,hp⟩:=zab hp
    have c_62:=C161_eq h_61
    simp at c_62
    obtain ⟨z_63,h_64,hp⟩:=zab hp
    have c_65:=zhs (P:=Tryz.prog) (t:=9) h_64
    cases hp
    simp [Goal,FnEnd,h_21,q_55,h_56,c_59,c_62,c_65]
   ·try simp at h_56
    cases hp
    simp [Goal,FnEnd,h_21,q_55,h_56]
 ·try simp at h_21
  try simp [h_21]
  obtain ⟨r_92,h_93,hp⟩:=zab hp
  obtain ⟨I_68,I_68_⟩:=exV fun (s_66:(List ByteArray) × Int) (σ:St)=>(σ.env 1=uI i∧σ.env 2=uP (1,2)∧σ.env 6=.one (.s (.string z_18))∧σ.env 7=uL .own s_66.1∧σ.env 8=uI s_66.2∧σ.mem (1,2)=some [cL .shr s.nodes,cL .shr s.next]∧σ.mem (1,5)=some [cL .shr e_1.vars,cL .shr e_1.reach,cI e_1.shared,cI e_1.many])∧NoBox [(1,2),(1,5)] σ.mem
  obtain ⟨X_69,X_69_⟩:=exV fun (r_92:(List ByteArray)) (out:Out)=>∃ σ:St,out=.exit 0 σ∧(σ.env 6=.one (.s (.string z_18))∧σ.env 7=uL .own r_92∧σ.mem (1,2)=some [cL .shr s.nodes,cL .shr s.next]∧σ.mem (1,5)=some [cL .shr e_1.vars,cL .shr e_1.reach,cI e_1.shared,cI e_1.many])∧NoBox [(1,2),(1,5)] σ.mem
  refine loopP ({ hd:=[1,2,6,7,8],bx:=[],ex:=[6,7],rt:=[4] }) I_68 X_69 h_93 (by exact rfl) ?_ ?_ ?_
  ·rw [I_68_]
   exact ⟨by simp [zac,zaa,h_21],NoBox.restrict (by intro k hk hb;simp at hk hb;simp [hk,hb,h_21])⟩
  ·intro s_66 σ_70 a_67 hI hp
   rw [I_68_] at hI
   obtain ⟨q_72,hn_71⟩:=hI
   try simp [h_21,q_72]
   rcases zad hp with ⟨h_73,hp⟩|⟨h_73,hp⟩
   ·try simp at h_73
    obtain ⟨y_74,h_75,hp⟩:=zab hp
    have c_76:=zjn h_75
    simp at c_76
    try simp [h_21,q_72,h_73,c_76]
    rcases zad hp with ⟨h_77,hp⟩|⟨h_77,hp⟩
    ·try simp at h_77
     obtain ⟨y_78,h_79,hp⟩:=zab hp
     have c_80:=zrn h_79
     simp at c_80
     obtain ⟨_,h_81,hp⟩:=zab hp
     have b_82:=zap h_81
     try simp at b_82
     cases hp
     try simp [h_21,q_72,h_73,h_77,c_80,b_82]
     refine zae ?_
     rw [I_68_]
     exact ⟨by simp [zac,zaa,h_21,q_72,h_73,h_77,c_80,b_82],NoBox.restrict (by intro k hk hb;simp at hk hb;simp [hk,hb,h_21,q_72,h_73,h_77,c_80,b_82,hn_71 k (by simp [hk,hb])])⟩
    ·try simp at h_77
     try simp [h_21,q_72,h_73,h_77]
     rcases zad hp with ⟨h_83,hp⟩|⟨h_83,hp⟩
     ·try simp at h_83
      obtain ⟨y_84,h_85,hp⟩:=zab hp
      have c_86:=zrn h_85
      simp at c_86
      obtain ⟨z_87,h_88,hp⟩:=zab hp
      have c_89:=zhs (P:=Tryz.prog) (t:=9) h_88
      obtain ⟨_,h_90,hp⟩:=zab hp
      have b_91:=zap h_90
      try simp at b_91
      cases hp
      try simp [h_21,q_72,h_73,h_77,h_83,c_86,c_89,b_91]
      refine zae ?_
      rw [I_68_]
      exact ⟨by simp [zac,zaa,h_21,q_72,h_73,h_77,h_83,c_86,c_89,b_91],NoBox.restrict (by intro k hk hb;simp at hk hb;simp [hk,hb,h_21,q_72,h_73,h_77,h_83,c_86,c_89,b_91,hn_71 k (by simp [hk,hb])])⟩
     ·try simp at h_83
      cases hp
      try simp [h_21,q_72,h_73,h_77,h_83]
      refine zae ?_
      rw [I_68_]
      exact ⟨by simp [zac,zaa,h_21,q_72,h_73,h_77,h_83],NoBox.restrict (by intro k hk hb;simp at hk hb;simp [hk,hb,h_21,q_72,h_73,h_77,h_83,hn_71 k (by simp [hk,hb])])⟩
   ·try simp at h_73
    cases hp
    try simp [h_21,q_72,h_73]
    refine zag ?_
    rw [X_69_]
    exact ⟨_,rfl,by simp [zac,zaa,h_21,q_72,h_73],NoBox.restrict (by intro k hk hb;simp at hk hb;simp [hk,hb,h_21,q_72,h_73,hn_71 k (by simp [hk,hb])])⟩
  ·intro out hX
   rw [X_69_] at hX
   obtain ⟨σ_94,rfl,q_96,hn_95⟩:=hX
   try simp [h_21,q_96]
   rcases zad hp with ⟨h_97,hp⟩|⟨h_97,hp⟩
   ·try simp at h_97
    obtain ⟨z_98,h_99,hp⟩:=zab hp
    have c_100:=zhs (P:=Tryz.prog) (t:=9) h_99
    obtain ⟨y_101,h_102,hp⟩:=zab hp
    have c_103:=C161_eq h_102
    simp at c_103
    obtain ⟨z_104,h_105,hp⟩:=zab hp
    have c_106:=zhs (P:=Tryz.prog) (t:=9) h_105
    cases hp
    simp [Goal,FnEnd,h_21,q_96,h_97,c_100,c_103,c_106]
   ·try simp at h_97
    cases hp
    simp [Goal,FnEnd,h_21,q_96,h_97]
theorem pc160:PC Tryz.prog 160 C160:=pc_of (g:=g160) (zai _ g160_s.2.1 ⟨pc68,pc103,pc161,pc169,pc170,trivial⟩) (ent Tryz.func160) fun x y h=>w160 h

def C144:List AV→Option AV:=specP (X:=(List ByteArray) × TStructure × Unit) fun x=>zbb x.1 x.2.1
theorem C144_eq {vars s} {y} (h:zbb vars s=some y):C144 [av .shr vars,av .shr s]=some (Res.res y):=zah (x:=(vars,s,())) h
def g144:Cfg:={ P:=Tryz.prog,take:=[(144,25)],keep:=[((144,5),{ hd:=[3,5,6],bx:=[],ex:=[5],rt:=[4] })],gho:=[],ctx:=[(32,C32),(159,C159),(160,C160),(161,C161)] }
@[simp] theorem g144_s:type_of% (cfg_s (g:=g144) rfl):=cfg_s rfl
theorem w144 {vars s} {y} (hp:zbb vars s=some y):∃ m,callo g144 0 144 [av .shr vars,av .shr s] mem0=some (Res.res y,m):=by
 refine st0 [.tmp 4] Tryz.func144 ?_
 unfold zbb at hp
 obtain ⟨y_1,h_2,hp⟩:=zab hp
 have c_3:=C159_eq h_2
 simp at c_3
 simp [Tryz.f144,c_3]
 rcases zad hp with ⟨h_4,hp⟩|⟨h_4,hp⟩
 ·try simp at h_4
  obtain ⟨y_5,h_6,hp⟩:=zab hp
  have c_7:=C32_eq h_6
  simp at c_7
  try simp [h_4,c_7]
  rcases zad hp with ⟨h_8,hp⟩|⟨h_8,hp⟩
  ·try simp at h_8
   try simp [h_4,h_8]
   obtain ⟨r_22,h_23,hp⟩:=zab hp
   obtain ⟨I_11,I_11_⟩:=exV fun (s_9:(List ByteArray) × Int) (σ:St)=>(σ.env 3=uP (1,3)∧σ.env 5=uL .own s_9.1∧σ.env 6=uI s_9.2∧σ.mem (1,3)=some [cL .shr s.nodes,cL .shr s.next])∧NoBox [(1,3)] σ.mem
   obtain ⟨X_12,X_12_⟩:=exV fun (r_22:(List ByteArray)) (out:Out)=>∃ σ:St,out=.exit 0 σ∧(σ.env 5=uL .own r_22∧σ.mem (1,3)=some [cL .shr s.nodes,cL .shr s.next])∧NoBox [(1,3)] σ.mem
   refine loopP ({ hd:=[3,5,6],bx:=[],ex:=[5],rt:=[4] }) I_11 X_12 h_23 (by exact rfl) ?_ ?_ ?_
   ·rw [I_11_]
    exact ⟨by simp [zac,zaa,h_4,h_8],NoBox.restrict (by intro k hk hb;simp at hk hb;simp [hk,hb,h_4,h_8])⟩
   ·intro s_9 σ_13 a_10 hI hp
    rw [I_11_] at hI
    obtain ⟨q_15,hn_14⟩:=hI
    try simp [h_4,h_8,q_15]
    rcases zad hp with ⟨h_16,hp⟩|⟨h_16,hp⟩
    ·try simp at h_16
     obtain ⟨y_17,h_18,hp⟩:=zab hp
     have c_19:=C160_eq h_18
     simp at c_19
     obtain ⟨_,h_20,hp⟩:=zab hp
     have b_21:=zap h_20
     try simp at b_21
     cases hp
     try simp [h_4,h_8,q_15,h_16,c_19,b_21]
     refine zae ?_
     rw [I_11_]
     exact ⟨by simp [zac,zaa,h_4,h_8,q_15,h_16,c_19,b_21],NoBox.restrict (by intro k hk hb;simp at hk hb;simp [hk,hb,h_4,h_8,q_15,h_16,c_19,b_21,hn_14 k (by simp [hk,hb])])⟩
    ·try simp at h_16
     cases hp
     try simp [h_4,h_8,q_15,h_16]
     refine zag ?_
     rw [X_12_]
     exact ⟨_,rfl,by simp [zac,zaa,h_4,h_8,q_15,h_16],NoBox.restrict (by intro k hk hb;simp at hk hb;simp [hk,hb,h_4,h_8,q_15,h_16,hn_14 k (by simp [hk,hb])])⟩
   ·intro out hX
    rw [X_12_] at hX
    obtain ⟨σ_24,rfl,q_26,hn_25⟩:=hX
    try simp [h_4,h_8,q_26]
    rcases zad hp with ⟨h_27,hp⟩|⟨h_27,hp⟩
    ·try simp at h_27
     cases hp
     simp [Goal,FnEnd,h_4,h_8,q_26,h_27]
    ·try simp at h_27
     obtain ⟨y_28,h_29,hp⟩:=zab hp
     have c_30:=C161_eq h_29
     simp at c_30
     cases hp
     simp [Goal,FnEnd,h_4,h_8,q_26,h_27,c_30]
  ·try simp at h_8
   cases hp
   simp [Goal,FnEnd,h_4,h_8]
 ·try simp at h_4
  cases hp
  simp [Goal,FnEnd,h_4]
theorem pc144:PC Tryz.prog 144 C144:=pc_of (g:=g144) (zai _ g144_s.2.1 ⟨pc32,pc159,pc160,pc161,trivial⟩) (ent Tryz.func144) fun x y h=>w144 h

def C115:List AV→Option AV:=specP (X:=TStructure × Unit) fun x=>zed x.1
theorem C115_eq {s} {y} (h:zed s=some y):C115 [av .shr s]=some (Res.res y):=zah (x:=(s,())) h
def g115:Cfg:={ P:=Tryz.prog,take:=[],keep:=[],gho:=[],ctx:=[(57,C57),(66,C66),(144,C144)] }
@[simp] theorem g115_s:type_of% (cfg_s (g:=g115) rfl):=cfg_s rfl
theorem w115 {s} {y} (hp:zed s=some y):∃ m,callo g115 0 115 [av .shr s] mem0=some (Res.res y,m):=by
 refine st0 [.tmp 2] Tryz.func115 ?_
 unfold zed at hp
 simp [Tryz.f115]
 rcases zad hp with ⟨h_1,hp⟩|⟨h_1,hp⟩
 ·try simp at h_1
  cases hp
  simp [Goal,FnEnd,h_1]
 ·try simp at h_1
  obtain ⟨y_2,h_3,hp⟩:=zab hp
  have c_4:=C57_eq h_3
  simp at c_4
  obtain ⟨y_5,h_6,hp⟩:=zab hp
  have c_7:=zfw h_6
  simp at c_7
  try simp [h_1,c_4,c_7]
  rcases zad hp with ⟨h_8,hp⟩|⟨h_8,hp⟩
  ·try simp at h_8
   obtain ⟨z_9,h_10,hp⟩:=zab hp
   have c_12:=slc_1 h_10
   have c_13:=slc_2 h_10
   have c_14:=slc_3 h_10
   have c_15:=slc_4 h_10
   try simp at c_12 c_13 c_14
   try simp [c_14] at c_15
   obtain ⟨y_16,h_17,hp⟩:=zab hp
   have c_18:=C144_eq h_17
   simp at c_18
   cases hp
   simp [Goal,FnEnd,h_1,h_8,c_12,c_13,c_14,c_15,c_18]
  ·try simp at h_8
   cases hp
   simp [Goal,FnEnd,h_1,h_8]
theorem pc115:PC Tryz.prog 115 C115:=pc_of (g:=g115) (zai _ g115_s.2.1 ⟨pc57,pc66,pc144,trivial⟩) (ent Tryz.func115) fun x y h=>w115 h

def C78:List AV→Option AV:=specP (X:=(List TStructure) × TStructure × Unit) fun x=>zew x.1 x.2.1
theorem C78_eq {set s} {y} (h:zew set s=some y):C78 [av .shr set,av .shr s]=some (Res.res y):=zah (x:=(set,s,())) h
def g78:Cfg:={ P:=Tryz.prog,take:=[(78,49),(78,54),(78,64),(78,69)],keep:=[((78,6),{ hd:=[0,5,6,7,8,9],bx:=[],ex:=[0,5,6,7,8],rt:=[4] }),((78,10),{ hd:=[0,5,6,7,8,10],bx:=[],ex:=[5,6,8],rt:=[4] })],gho:=[],ctx:=[(25,C25),(58,C58),(115,C115)] }
@[simp] theorem g78_s:type_of% (cfg_s (g:=g78) rfl):=cfg_s rfl
theorem w78 {set s} {y} (hp:zew set s=some y):∃ m,callo g78 0 78 [av .shr set,av .shr s] mem0=some (Res.res y,m):=by
 refine st0 [.tmp 4] Tryz.func78 ?_
 unfold zew at hp
 obtain ⟨y_1,h_2,hp⟩:=zab hp
 have c_3:=C25_eq h_2
 simp at c_3
 obtain ⟨y_4,h_5,hp⟩:=zab hp
 have c_6:=C115_eq h_5
 simp at c_6
 simp [Tryz.f78,c_3,c_6]
 obtain ⟨r_24,h_25,hp⟩:=zab hp
 obtain ⟨I_9,I_9_⟩:=exV fun (s_7:Bool × Int) (σ:St)=>(σ.env 0=uL .shr set∧σ.env 5=.one (.l .own 0 [])∧σ.env 6=uP (1,6)∧σ.env 7=.one (.s (.string y_4))∧σ.env 8=uB s_7.1∧σ.env 9=uI s_7.2∧σ.mem (1,3)=some [cL .shr s.nodes,cL .shr s.next]∧σ.mem (1,6)=some [cL .own y_1.nodes,cL .own y_1.next])∧NoBox [(1,3),(1,6)] σ.mem
 obtain ⟨X_10,X_10_⟩:=exV fun (r_24:Bool) (out:Out)=>∃ σ:St,out=.exit 0 σ∧(σ.env 0=uL .shr set∧σ.env 5=.one (.l .own 0 [])∧σ.env 6=uP (1,6)∧σ.env 7=.one (.s (.string y_4))∧σ.env 8=uB r_24∧σ.mem (1,3)=some [cL .shr s.nodes,cL .shr s.next]∧σ.mem (1,6)=some [cL .own y_1.nodes,cL .own y_1.next])∧NoBox [(1,3),(1,6)] σ.mem
 refine loopP ({ hd:=[0,5,6,7,8,9],bx:=[],ex:=[0,5,6,7,8],rt:=[4] }) I_9 X_10 h_25 (by exact rfl) ?_ ?_ ?_
 ·rw [I_9_]
  exact ⟨by simp [zac,zaa],NoBox.restrict (by intro k hk hb;simp at hk hb;simp [hk,hb])⟩
 ·intro s_7 σ_11 a_8 hI hp
  rw [I_9_] at hI
  obtain ⟨q_13,hn_12⟩:=hI
  try simp [q_13]
  rcases zad hp with ⟨h_14,hp⟩|⟨h_14,hp⟩
  ·try simp at h_14
   try simp [q_13,h_14]
   rcases zad hp with ⟨h_15,hp⟩|⟨h_15,hp⟩
   ·try simp at h_15
    cases hp
    try simp [q_13,h_14,h_15]
    refine zae ?_
    rw [I_9_]
    exact ⟨by simp [zac,zaa,q_13,h_14,h_15],NoBox.restrict (by intro k hk hb;simp at hk hb;simp [hk,hb,q_13,h_14,h_15,hn_12 k (by simp [hk,hb])])⟩
   ·try simp at h_15
    obtain ⟨e_16,h_17,hp⟩:=zab hp
    have b_18:=at_lo h_17
    have b_19:=at_hi h_17
    try simp at b_18 b_19
    have c_20:=seg_at' h_17 0 2 (by decide) (ds:=[.sl e_16.nodes.length (encL e_16.nodes),.sl e_16.next.length (encL e_16.next)]) rfl
    try simp at c_20
    obtain ⟨y_21,h_22,hp⟩:=zab hp
    have c_23:=C115_eq h_22
    simp at c_23
    cases hp
    try simp [q_13,h_14,h_15,b_18,b_19,c_20,c_23]
    refine zae ?_
    rw [I_9_]
    exact ⟨by simp [zac,zaa,q_13,h_14,h_15,b_18,b_19,c_20,c_23],NoBox.restrict (by intro k hk hb;simp at hk hb;simp [hk,hb,q_13,h_14,h_15,b_18,b_19,c_20,c_23,hn_12 k (by simp [hk,hb])])⟩
  ·try simp at h_14
   cases hp
   try simp [q_13,h_14]
   refine zag ?_
   rw [X_10_]
   exact ⟨_,rfl,by simp [zac,zaa,q_13,h_14],NoBox.restrict (by intro k hk hb;simp at hk hb;simp [hk,hb,q_13,h_14,hn_12 k (by simp [hk,hb])])⟩
 ·intro out hX
  rw [X_10_] at hX
  obtain ⟨σ_26,rfl,q_28,hn_27⟩:=hX
  try simp [q_28]
  obtain ⟨r_82,h_83,hp⟩:=zab hp
  obtain ⟨I_31,I_31_⟩:=exV fun (s_29:(List TStructure) × Int × Bool) (σ:St)=>(σ.env 0=uL .shr set∧σ.env 5=uL .own s_29.1∧σ.env 6=uP (1,6)∧σ.env 7=.one (.s (.string y_4))∧σ.env 8=uB s_29.2.2∧σ.env 10=uI s_29.2.1∧σ.mem (1,3)=some [cL .shr s.nodes,cL .shr s.next]∧σ.mem (1,6)=some [cL .own y_1.nodes,cL .own y_1.next])∧NoBox [(1,3),(1,6)] σ.mem
  obtain ⟨X_32,X_32_⟩:=exV fun (r_82:(List TStructure) × Bool) (out:Out)=>∃ σ:St,out=.exit 2 σ∧(σ.env 5=uL .own r_82.1∧σ.env 6=uP (1,6)∧σ.env 8=uB r_82.2∧σ.mem (1,3)=some [cL .shr s.nodes,cL .shr s.next]∧σ.mem (1,6)=some [cL .own y_1.nodes,cL .own y_1.next])∧NoBox [(1,3),(1,6)] σ.mem
  refine loopP ({ hd:=[0,5,6,7,8,10],bx:=[],ex:=[5,6,8],rt:=[4] }) I_31 X_32 h_83 (by exact rfl) ?_ ?_ ?_
  ·rw [I_31_]
   exact ⟨by simp [zac,zaa,q_28],NoBox.restrict (by intro k hk hb;simp at hk hb;simp [hk,hb,q_28,hn_27 k (by simp [hk,hb])])⟩
  ·intro s_29 σ_33 a_30 hI hp
   rw [I_31_] at hI
   obtain ⟨q_35,hn_34⟩:=hI
   try simp [q_35]
   rcases zad hp with ⟨h_36,hp⟩|⟨h_36,hp⟩
   ·try simp at h_36
    try simp [q_35,h_36]
    rcases zad hp with ⟨h_37,hp⟩|⟨h_37,hp⟩
    ·try simp at h_37
     obtain ⟨e_38,h_39,hp⟩:=zab hp
     have b_40:=at_lo h_39
     have b_41:=at_hi h_39
     try simp at b_40 b_41
     have c_42:=seg_at' h_39 0 2 (by decide) (ds:=[.sl e_38.nodes.length (encL e_38.nodes),.sl e_38.next.length (encL e_38.next)]) rfl
     try simp at c_42
     obtain ⟨y_43,h_44,hp⟩:=zab hp
     have c_45:=zpy h_44
     simp at c_45
     obtain ⟨_,h_46,hp⟩:=zab hp
     have b_47:=zap h_46
     try simp at b_47
     cases hp
     try simp [q_35,h_36,h_37,b_40,b_41,c_42,c_45,b_47]
     refine zae ?_
     rw [I_31_]
     exact ⟨by simp [zac,zaa,q_35,h_36,h_37,b_40,b_41,c_42,c_45,b_47],NoBox.restrict (by intro k hk hb;simp at hk hb;simp [hk,hb,q_35,h_36,h_37,b_40,b_41,c_42,c_45,b_47,hn_34 k (by simp [hk,hb])])⟩
    ·try simp at h_37
     obtain ⟨e_48,h_49,hp⟩:=zab hp
     have b_50:=at_lo h_49
     have b_51:=at_hi h_49
     try simp at b_50 b_51
     have c_52:=seg_at' h_49 0 2 (by decide) (ds:=[.sl e_48.nodes.length (encL e_48.nodes),.sl e_48.next.length (encL e_48.next)]) rfl
     try simp at c_52
     obtain ⟨y_53,h_54,hp⟩:=zab hp
     have c_55:=C115_eq h_54
     simp at c_55
     try simp [q_35,h_36,h_37,b_50,b_51,c_52,c_55]
     rcases zad hp with ⟨h_56,hp⟩|⟨h_56,hp⟩
     ·try simp at h_56
      obtain ⟨y_57,h_58,hp⟩:=zab hp
      have c_59:=zpy h_58
      simp at c_59
      obtain ⟨_,h_60,hp⟩:=zab hp
      have b_61:=zap h_60
      try simp at b_61
      obtain ⟨e_62,h_63,hp⟩:=zab hp
      cases Option.some.inj (h_49.symm.trans h_63)
      have b_64:=at_lo h_49
      have b_65:=at_hi h_49
      try simp at b_64 b_65
      have c_66:=seg_at' h_49 0 2 (by decide) (ds:=[.sl e_48.nodes.length (encL e_48.nodes),.sl e_48.next.length (encL e_48.next)]) rfl
      try simp at c_66
      obtain ⟨y_67,h_68,hp⟩:=zab hp
      have c_69:=zpy h_68
      simp at c_69
      obtain ⟨_,h_70,hp⟩:=zab hp
      have b_71:=zap h_70
      try simp at b_71
      cases hp
      try simp [q_35,h_36,h_37,h_56,c_59,b_61,b_64,b_65,c_66,c_69,b_71]
      refine zae ?_
      rw [I_31_]
      exact ⟨by simp [zac,zaa,q_35,h_36,h_37,h_56,c_59,b_61,b_64,b_65,c_66,c_69,b_71],NoBox.restrict (by intro k hk hb;simp at hk hb;simp [hk,hb,q_35,h_36,h_37,h_56,c_59,b_61,b_64,b_65,c_66,c_69,b_71,hn_34 k (by simp [hk,hb])])⟩
     ·try simp at h_56
      obtain ⟨e_72,h_73,hp⟩:=zab hp
      cases Option.some.inj (h_49.symm.trans h_73)
      have b_74:=at_lo h_49
      have b_75:=at_hi h_49
      try simp at b_74 b_75
      have c_76:=seg_at' h_49 0 2 (by decide) (ds:=[.sl e_48.nodes.length (encL e_48.nodes),.sl e_48.next.length (encL e_48.next)]) rfl
      try simp at c_76
      obtain ⟨y_77,h_78,hp⟩:=zab hp
      have c_79:=zpy h_78
      simp at c_79
      obtain ⟨_,h_80,hp⟩:=zab hp
      have b_81:=zap h_80
      try simp at b_81
      cases hp
      try simp [q_35,h_36,h_37,h_56,b_74,b_75,c_76,c_79,b_81]
      refine zae ?_
      rw [I_31_]
      exact ⟨by simp [zac,zaa,q_35,h_36,h_37,h_56,b_74,b_75,c_76,c_79,b_81],NoBox.restrict (by intro k hk hb;simp at hk hb;simp [hk,hb,q_35,h_36,h_37,h_56,b_74,b_75,c_76,c_79,b_81,hn_34 k (by simp [hk,hb])])⟩
   ·try simp at h_36
    cases hp
    try simp [q_35,h_36]
    refine zag ?_
    rw [X_32_]
    exact ⟨_,rfl,by simp [zac,zaa,q_35,h_36],NoBox.restrict (by intro k hk hb;simp at hk hb;simp [hk,hb,q_35,h_36,hn_34 k (by simp [hk,hb])])⟩
  ·intro out hX
   rw [X_32_] at hX
   obtain ⟨σ_84,rfl,q_86,hn_85⟩:=hX
   try simp [q_86]
   rcases zad hp with ⟨h_87,hp⟩|⟨h_87,hp⟩
   ·try simp at h_87
    cases hp
    simp [Goal,FnEnd,q_86,h_87]
   ·try simp at h_87
    obtain ⟨y_88,h_89,hp⟩:=zab hp
    have c_90:=zpy h_89
    simp at c_90
    obtain ⟨_,h_91,hp⟩:=zab hp
    have b_92:=zap h_91
    try simp at b_92
    cases hp
    simp [Goal,FnEnd,q_86,h_87,c_90,b_92]
theorem pc78:PC Tryz.prog 78 C78:=pc_of (g:=g78) (zai _ g78_s.2.1 ⟨pc25,pc58,pc115,trivial⟩) (ent Tryz.func78) fun x y h=>w78 h
end Go.Proofs

