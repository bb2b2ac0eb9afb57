import Derived.Test.YtfcfpdcjepobpaaEvA12
set_option linter.unusedSimpArgs false
set_option linter.unusedVariables false
set_option linter.unnecessarySimpa false
noncomputable section
set_option maxHeartbeats 4000000
set_option maxRecDepth 100000
namespace Go.Proofs
open Go.Ev
def C83:List AV→Option AV:=specP (X:=TStructure × Unit) fun x=>zbi x.1
theorem C83_eq {s} {y} (h:zbi s=some y):C83 [av .shr s]=some (Res.res y):=zai (x:=(s,())) h
def g83:Cfg:={ P:=Try.prog,take:=[],keep:=[],gho:=[],ctx:=[(30,C30)] }
@[simp] theorem g83_s:type_of% (cfg_s (g:=g83) rfl):=cfg_s rfl
theorem w83 {s} {y} (hp:zbi s=some y):∃ m,callo g83 0 83 [av .shr s] mem0=some (Res.res y,m):=by
 refine st0 [.tmp 2] Try.func83 ?_
 unfold zbi at hp
 simp [Try.f83]
 rcases zad hp with ⟨h_1,hp⟩|⟨h_1,hp⟩
 ·try simp at h_1
  cases hp
  simp [Goal,FnEnd,h_1]
 ·try simp at h_1
  obtain ⟨y_2,h_3,hp⟩:=zaa hp
  have c_4:=C30_eq h_3
  simp at c_4
  cases hp
  simp [Goal,FnEnd,h_1,c_4]
theorem pc83:PC Try.prog 83 C83:=pc_of (g:=g83) (zah _ g83_s.2.1 ⟨pc30,trivial⟩) (ent Try.func83) fun x y h=>w83 h

def C58:List AV→Option AV:=specP (X:=(List Int) × Int × Unit) fun x=>zdo x.1 x.2.1
theorem C58_eq {list k_} {y} (h:zdo list k_=some y):C58 [av .shr list,av .shr k_]=some (Res.res y):=zai (x:=(list,k_,())) h
def g58:Cfg:={ P:=Try.prog,take:=[],keep:=[],gho:=[],ctx:=[(40,C40)] }
@[simp] theorem g58_s:type_of% (cfg_s (g:=g58) rfl):=cfg_s rfl
theorem w58 {list k_} {y} (hp:zdo list k_=some y):∃ m,callo g58 0 58 [av .shr list,av .shr k_] mem0=some (Res.res y,m):=by
 refine st0 [.tmp 4] Try.func58 ?_
 unfold zdo at hp
 obtain ⟨y_1,h_2,hp⟩:=zaa hp
 have c_3:=zgh h_2
 simp at c_3
 simp [Try.f58,c_3]
 rcases zad hp with ⟨h_4,hp⟩|⟨h_4,hp⟩
 ·try simp at h_4
  obtain ⟨e_5,h_6,hp⟩:=zaa hp
  have b_7:=at_lo h_6
  have b_8:=at_hi h_6
  try simp at b_7 b_8
  have c_9:=seg_at' h_6 0 1 (by decide) (ds:=[.sc (.int .i64 e_5)]) rfl
  try simp at c_9
  cases hp
  simp [Goal,FnEnd,h_4,b_7,b_8,c_9]
 ·try simp at h_4
  cases hp
  simp [Goal,FnEnd,h_4]
theorem pc58:PC Try.prog 58 C58:=pc_of (g:=g58) (zah _ g58_s.2.1 ⟨pc40,trivial⟩) (ent Try.func58) fun x y h=>w58 h

def C85:List AV→Option AV:=specP (X:=TStructure × Int × Int × Unit) fun x=>zcs x.1 x.2.1 x.2.2.1
theorem C85_eq {s k_ i} {y} (h:zcs s k_ i=some y):C85 [av .shr s,av .shr k_,av .shr i]=some (Res.res y):=zai (x:=(s,k_,i,())) h
def g85:Cfg:={ P:=Try.prog,take:=[],keep:=[],gho:=[],ctx:=[(30,C30),(40,C40),(58,C58)] }
@[simp] theorem g85_s:type_of% (cfg_s (g:=g85) rfl):=cfg_s rfl
theorem w85 {s k_ i} {y} (hp:zcs s k_ i=some y):∃ m,callo g85 0 85 [av .shr s,av .shr k_,av .shr i] mem0=some (Res.res y,m):=by
 refine st0 [.tmp 6] Try.func85 ?_
 unfold zcs at hp
 obtain ⟨y_1,h_2,hp⟩:=zaa hp
 have c_3:=C30_eq h_2
 simp at c_3
 obtain ⟨y_4,h_5,hp⟩:=zaa hp
 have c_6:=zgh h_5
 simp at c_6
 simp [Try.f85,c_3,c_6]
 rcases zad hp with ⟨h_7,hp⟩|⟨h_7,hp⟩
 ·try simp at h_7
  obtain ⟨y_8,h_9,hp⟩:=zaa hp
  have c_10:=zgh h_9
  simp at c_10
  try simp [h_7,c_10]
  rcases zad hp with ⟨h_11,hp⟩|⟨h_11,hp⟩
  ·try simp at h_11
   obtain ⟨e_12,h_13,hp⟩:=zaa hp
   have b_14:=at_lo h_13
   have b_15:=at_hi h_13
   try simp at b_14 b_15
   have c_16:=seg_at' h_13 0 1 (by decide) (ds:=[.sl e_12.vars.length (encL e_12.vars)]) rfl
   try simp at c_16
   obtain ⟨y_17,h_18,hp⟩:=zaa hp
   have c_19:=C58_eq h_18
   simp at c_19
   cases hp
   simp [Goal,FnEnd,h_7,h_11,b_14,b_15,c_16,c_19]
  ·try simp at h_11
   obtain ⟨y_20,h_21,hp⟩:=zaa hp
   have c_22:=zgh h_21
   simp at c_22
   try simp [h_7,h_11,c_22]
   rcases zad hp with ⟨h_23,hp⟩|⟨h_23,hp⟩
   ·try simp at h_23
    obtain ⟨e_24,h_25,hp⟩:=zaa hp
    have b_26:=at_lo h_25
    have b_27:=at_hi h_25
    try simp at b_26 b_27
    have c_28:=seg_at' h_25 1 1 (by decide) (ds:=[.sl e_24.reach.length (encL e_24.reach)]) rfl
    try simp at c_28
    obtain ⟨y_29,h_30,hp⟩:=zaa hp
    have c_31:=C58_eq h_30
    simp at c_31
    cases hp
    simp [Goal,FnEnd,h_7,h_11,h_23,b_26,b_27,c_28,c_31]
   ·try simp at h_23
    try simp [h_7,h_11,h_23]
    rcases zad hp with ⟨h_32,hp⟩|⟨h_32,hp⟩
    ·try simp at h_32
     obtain ⟨e_33,h_34,hp⟩:=zaa hp
     have b_35:=at_lo h_34
     have b_36:=at_hi h_34
     try simp at b_35 b_36
     have c_37:=seg_at' h_34 2 1 (by decide) (ds:=[.sc (.int .i64 e_33.shared)]) rfl
     try simp at c_37
     cases hp
     simp [Goal,FnEnd,h_7,h_11,h_23,h_32,b_35,b_36,c_37]
    ·try simp at h_32
     cases hp
     simp [Goal,FnEnd,h_7,h_11,h_23,h_32]
 ·try simp at h_7
  cases hp
  simp [Goal,FnEnd,h_7]
theorem pc85:PC Try.prog 85 C85:=pc_of (g:=g85) (zah _ g85_s.2.1 ⟨pc30,pc40,pc58,trivial⟩) (ent Try.func85) fun x y h=>w85 h

def C84:List AV→Option AV:=specP (X:=Int × Unit) fun x=>zdh x.1
theorem C84_eq {a_} {y} (h:zdh a_=some y):C84 [av .shr a_]=some (Res.res y):=zai (x:=(a_,())) h
def g84:Cfg:={ P:=Try.prog,take:=[],keep:=[],gho:=[],ctx:=[(39,C39)] }
@[simp] theorem g84_s:type_of% (cfg_s (g:=g84) rfl):=cfg_s rfl
theorem w84 {a_} {y} (hp:zdh a_=some y):∃ m,callo g84 0 84 [av .shr a_] mem0=some (Res.res y,m):=by
 refine st0 [.tmp 2] Try.func84 ?_
 unfold zdh at hp
 obtain ⟨y_1,h_2,hp⟩:=zaa hp
 have c_3:=zob h_2
 simp at c_3
 simp [Try.f84,c_3]
 rcases zad hp with ⟨h_4,hp⟩|⟨h_4,hp⟩
 ·try simp at h_4
  obtain ⟨z_5,h_6,hp⟩:=zaa hp
  have c_7:=sl_str Try.underlying9 h_6
  cases hp
  simp [Goal,FnEnd,h_4,c_7]
 ·try simp at h_4
  cases hp
  simp [Goal,FnEnd,h_4]
theorem pc84:PC Try.prog 84 C84:=pc_of (g:=g84) (zah _ g84_s.2.1 ⟨pc39,trivial⟩) (ent Try.func84) fun x y h=>w84 h

def C78:List AV→Option AV:=specP (X:=TStructure × Int × Unit) fun x=>zeb x.1 x.2.1
theorem C78_eq {s i} {y} (h:zeb s i=some y):C78 [av .shr s,av .shr i]=some (Res.res y):=zai (x:=(s,i,())) h
def g78:Cfg:={ P:=Try.prog,take:=[],keep:=[((78,6),{ hd:=[1,2,5,6,7],bx:=[],ex:=[5],rt:=[4] })],gho:=[],ctx:=[(40,C40),(83,C83),(84,C84),(85,C85)] }
@[simp] theorem g78_s:type_of% (cfg_s (g:=g78) rfl):=cfg_s rfl
theorem w78 {s i} {y} (hp:zeb s i=some y):∃ m,callo g78 0 78 [av .shr s,av .shr i] mem0=some (Res.res y,m):=by
 refine st0 [.tmp 4] Try.func78 ?_
 unfold zeb at hp
 obtain ⟨y_1,h_2,hp⟩:=zaa hp
 have c_3:=zgh h_2
 simp at c_3
 simp [Try.f78,c_3]
 rcases zad hp with ⟨h_4,hp⟩|⟨h_4,hp⟩
 ·try simp at h_4
  obtain ⟨y_5,h_6,hp⟩:=zaa hp
  have c_7:=C83_eq h_6
  simp at c_7
  try simp [h_4,c_7]
  obtain ⟨r_25,h_26,hp⟩:=zaa hp
  obtain ⟨I_10,I_10_⟩:=exV fun (s_8:ByteArray × Int) (σ:St)=>(σ.env 1=uI i∧σ.env 2=uP (1,2)∧σ.env 5=.one (.s (.string s_8.1))∧σ.env 6=uI y_5∧σ.env 7=uI s_8.2∧σ.mem (1,2)=some [cL .shr s.nodes,cL .shr s.next])∧NoBox [(1,2)] σ.mem
  obtain ⟨X_11,X_11_⟩:=exV fun (r_25:ByteArray) (out:Out)=>∃ σ:St,out=.exit 0 σ∧(σ.env 5=.one (.s (.string r_25))∧σ.mem (1,2)=some [cL .shr s.nodes,cL .shr s.next])∧NoBox [(1,2)] σ.mem
  refine loopP ({ hd:=[1,2,5,6,7],bx:=[],ex:=[5],rt:=[4] }) I_10 X_11 h_26 (by exact rfl) ?_ ?_ ?_
  ·rw [I_10_]
   exact ⟨by simp [zac,zab,h_4],NoBox.restrict (by intro k hk hb;simp at hk hb;simp [hk,hb,h_4])⟩
  ·intro s_8 σ_12 a_9 hI hp
   rw [I_10_] at hI
   obtain ⟨q_14,hn_13⟩:=hI
   try simp [h_4,q_14]
   rcases zad hp with ⟨h_15,hp⟩|⟨h_15,hp⟩
   ·try simp at h_15
    obtain ⟨y_16,h_17,hp⟩:=zaa hp
    have c_18:=C85_eq h_17
    simp at c_18
    obtain ⟨y_19,h_20,hp⟩:=zaa hp
    have c_21:=C84_eq h_20
    simp at c_21
    obtain ⟨z_22,h_23,hp⟩:=zaa hp
    have c_24:=cat_str (P:=Try.prog) (t:=9) h_23
    cases hp
    try simp [h_4,q_14,h_15,c_18,c_21,c_24]
    refine zae ?_
    rw [I_10_]
    exact ⟨by simp [zac,zab,h_4,q_14,h_15,c_18,c_21,c_24],NoBox.restrict (by intro k hk hb;simp at hk hb;simp [hk,hb,h_4,q_14,h_15,c_18,c_21,c_24,hn_13 k (by simp [hk,hb])])⟩
   ·try simp at h_15
    cases hp
    try simp [h_4,q_14,h_15]
    refine zag ?_
    rw [X_11_]
    exact ⟨_,rfl,by simp [zac,zab,h_4,q_14,h_15],NoBox.restrict (by intro k hk hb;simp at hk hb;simp [hk,hb,h_4,q_14,h_15,hn_13 k (by simp [hk,hb])])⟩
  ·intro out hX
   rw [X_11_] at hX
   obtain ⟨σ_27,rfl,q_29,hn_28⟩:=hX
   cases hp
   simp [Goal,FnEnd,h_4,q_29]
 ·try simp at h_4
  cases hp
  simp [Goal,FnEnd,h_4]
theorem pc78:PC Try.prog 78 C78:=pc_of (g:=g78) (zah _ g78_s.2.1 ⟨pc40,pc83,pc84,pc85,trivial⟩) (ent Try.func78) fun x y h=>w78 h

def C64:List AV→Option AV:=specS (X:=TStructure × Unit) fun x=>zeu x.1
theorem C64_eq {s} {y} (h:zeu s=some y):C64 [av .shr s]=some (av .shr y):=specS_eq (x:=(s,())) h
theorem pc64:PC Try.prog 64 C64:=pc_l17 pc78 fun s i x h=>C78_eq h

def C65:List AV→Option AV:=specP (X:=TStructure × (List Int) × Unit) fun x=>zds x.1 x.2.1
theorem C65_eq {s group} {y} (h:zds s group=some y):C65 [av .shr s,av .shr group]=some (Res.res y):=zai (x:=(s,group,())) h
def g65:Cfg:={ P:=Try.prog,take:=[(65,37)],keep:=[((65,3),{ hd:=[1,2,4,5,6],bx:=[],ex:=[4,5],rt:=[4] })],gho:=[],ctx:=[(59,C59)] }
@[simp] theorem g65_s:type_of% (cfg_s (g:=g65) rfl):=cfg_s rfl
theorem w65 {s group} {y} (hp:zds s group=some y):∃ m,callo g65 0 65 [av .shr s,av .shr group] mem0=some (Res.res y,m):=by
 refine st0 [.cell 4 54] Try.func65 ?_
 unfold zds at hp
 obtain ⟨e_1,h_2,hp⟩:=zaa hp
 have b_4:=at_hi h_2
 try simp at b_4
 have c_5:=seg_at' h_2 0 1 (by decide) (ds:=[.sc (.int .i64 e_1)]) rfl
 try simp at c_5
 obtain ⟨e_6,h_7,hp⟩:=zaa hp
 have b_8:=at_lo h_7
 have b_9:=at_hi h_7
 try simp at b_8 b_9
 have c_10:=seg_at' h_7 0 4 (by decide) (ds:=[.sl e_6.vars.length (encL e_6.vars),.sl e_6.reach.length (encL e_6.reach),.sc (.int .i64 e_6.shared),.sc (.int .i64 e_6.many)]) rfl
 try simp at c_10
 obtain ⟨y_11,h_12,hp⟩:=zaa hp
 have c_13:=C59_eq h_12
 simp at c_13
 simp [Try.f65,b_4,c_5,b_8,b_9,c_10,c_13]
 obtain ⟨r_34,h_35,hp⟩:=zaa hp
 obtain ⟨I_16,I_16_⟩:=exV fun (s_14:Int × Int) (σ:St)=>(σ.env 1=uL .shr group∧σ.env 2=uP (1,2)∧σ.env 4=uP (1,4)∧σ.env 5=uP (1,5)∧σ.env 6=uI s_14.1∧σ.mem (1,2)=some [cL .shr s.nodes,cL .shr s.next]∧σ.mem (1,4)=some [.l .own 0 [],.l .own 0 [],cI 0,cI 0]∧σ.mem (1,5)=some [cL .own y_11.vars,cL .own y_11.reach,cI y_11.shared,cI s_14.2])∧NoBox [(1,2),(1,4),(1,5)] σ.mem
 obtain ⟨X_17,X_17_⟩:=exV fun (r_34:Int) (out:Out)=>∃ σ:St,out=.exit 0 σ∧(σ.env 4=uP (1,4)∧σ.env 5=uP (1,5)∧σ.mem (1,2)=some [cL .shr s.nodes,cL .shr s.next]∧σ.mem (1,4)=some [.l .own 0 [],.l .own 0 [],cI 0,cI 0]∧σ.mem (1,5)=some [cL .own y_11.vars,cL .own y_11.reach,cI y_11.shared,cI r_34])∧NoBox [(1,2),(1,4),(1,5)] σ.mem
 refine loopP ({ hd:=[1,2,4,5,6],bx:=[],ex:=[4,5],rt:=[4] }) I_16 X_17 h_35 (by exact rfl) ?_ ?_ ?_
 ·rw [I_16_]
  exact ⟨by simp [zac,zab],NoBox.restrict (by intro k hk hb;simp at hk hb;simp [hk,hb])⟩
 ·intro s_14 σ_18 a_15 hI hp
  rw [I_16_] at hI
  obtain ⟨q_20,hn_19⟩:=hI
  try simp [q_20]
  rcases zad hp with ⟨h_21,hp⟩|⟨h_21,hp⟩
  ·try simp at h_21
   try simp [q_20,h_21]
   rcases zad hp with ⟨h_22,hp⟩|⟨h_22,hp⟩
   ·try simp at h_22
    cases hp
    try simp [q_20,h_21,h_22]
    refine zae ?_
    rw [I_16_]
    exact ⟨by simp [zac,zab,q_20,h_21,h_22],NoBox.restrict (by intro k hk hb;simp at hk hb;simp [hk,hb,q_20,h_21,h_22,hn_19 k (by simp [hk,hb])])⟩
   ·try simp at h_22
    obtain ⟨e_23,h_24,hp⟩:=zaa hp
    have b_25:=at_lo h_24
    have b_26:=at_hi h_24
    try simp at b_25 b_26
    have c_27:=seg_at' h_24 0 1 (by decide) (ds:=[.sc (.int .i64 e_23)]) rfl
    try simp at c_27
    obtain ⟨e_28,h_29,hp⟩:=zaa hp
    have b_30:=at_lo h_29
    have b_31:=at_hi h_29
    try simp at b_30 b_31
    have c_32:=seg_at' h_29 3 1 (by decide) (ds:=[.sc (.int .i64 e_28.many)]) rfl
    try simp at c_32
    try simp [q_20,h_21,h_22,b_25,b_26,c_27,b_30,b_31,c_32]
    rcases zad hp with ⟨h_33,hp⟩|⟨h_33,hp⟩
    ·try simp at h_33
     cases hp
     try simp [q_20,h_21,h_22,h_33]
     refine zae ?_
     rw [I_16_]
     exact ⟨by simp [zac,zab,q_20,h_21,h_22,h_33],NoBox.restrict (by intro k hk hb;simp at hk hb;simp [hk,hb,q_20,h_21,h_22,h_33,hn_19 k (by simp [hk,hb])])⟩
    ·try simp at h_33
     cases hp
     try simp [q_20,h_21,h_22,h_33]
     refine zae ?_
     rw [I_16_]
     exact ⟨by simp [zac,zab,q_20,h_21,h_22,h_33],NoBox.restrict (by intro k hk hb;simp at hk hb;simp [hk,hb,q_20,h_21,h_22,h_33,hn_19 k (by simp [hk,hb])])⟩
  ·try simp at h_21
   cases hp
   try simp [q_20,h_21]
   refine zag ?_
   rw [X_17_]
   exact ⟨_,rfl,by simp [zac,zab,q_20,h_21],NoBox.restrict (by intro k hk hb;simp at hk hb;simp [hk,hb,q_20,h_21,hn_19 k (by simp [hk,hb])])⟩
 ·intro out hX
  rw [X_17_] at hX
  obtain ⟨σ_36,rfl,q_38,hn_37⟩:=hX
  cases hp
  simp [Goal,FnEnd,retR,rsrc,RSrc.val,nodupR,nodup,tupPart,q_38]
theorem pc65:PC Try.prog 65 C65:=pc_of (g:=g65) (zah _ g65_s.2.1 ⟨pc59,trivial⟩) (ent Try.func65) fun x y h=>w65 h

def C33:List AV→Option AV:=specP (X:=TStructure × Int × Int × Unit) fun x=>zbh x.1 x.2.1 x.2.2.1
theorem zjl {s i j} {y} (h:zbh s i j=some y):C33 [av .shr s,av .shr i,av .shr j]=some (Res.res y):=zai (x:=(s,i,j,())) h
def g33:Cfg:={ P:=Try.prog,take:=[],keep:=[],gho:=[],ctx:=[(40,C40)] }
@[simp] theorem g33_s:type_of% (cfg_s (g:=g33) rfl):=cfg_s rfl
theorem w33 {s i j} {y} (hp:zbh s i j=some y):∃ m,callo g33 0 33 [av .shr s,av .shr i,av .shr j] mem0=some (Res.res y,m):=by
 refine st0 [.tmp 6] Try.func33 ?_
 unfold zbh at hp
 obtain ⟨y_1,h_2,hp⟩:=zaa hp
 have c_3:=zgh h_2
 simp at c_3
 simp [Try.f33,c_3]
 rcases zad hp with ⟨h_4,hp⟩|⟨h_4,hp⟩
 ·try simp at h_4
  obtain ⟨y_5,h_6,hp⟩:=zaa hp
  have c_7:=zgh h_6
  simp at c_7
  try simp [h_4,c_7]
  rcases zad hp with ⟨h_8,hp⟩|⟨h_8,hp⟩
  ·try simp at h_8
   try simp [h_4,h_8]
   rcases zad hp with ⟨h_9,hp⟩|⟨h_9,hp⟩
   ·try simp at h_9
    cases hp
    simp [Goal,FnEnd,h_4,h_8,h_9]
   ·try simp at h_9
    obtain ⟨e_10,h_11,hp⟩:=zaa hp
    have b_12:=at_lo h_11
    have b_13:=at_hi h_11
    try simp at b_12 b_13
    have c_14:=seg_at' h_11 0 1 (by decide) (ds:=[.sc (.int .i64 e_10)]) rfl
    try simp at c_14
    cases hp
    simp [Goal,FnEnd,h_4,h_8,h_9,b_12,b_13,c_14]
  ·try simp at h_8
   cases hp
   simp [Goal,FnEnd,h_4,h_8]
 ·try simp at h_4
  cases hp
  simp [Goal,FnEnd,h_4]
theorem pc33:PC Try.prog 33 C33:=pc_of (g:=g33) (zah _ g33_s.2.1 ⟨pc40,trivial⟩) (ent Try.func33) fun x y h=>w33 h

def C79:List AV→Option AV:=specP (X:=Int × Int × Unit) fun x=>zfb x.1 x.2.1
theorem C79_eq {a_ b_} {y} (h:zfb a_ b_=some y):C79 [av .shr a_,av .shr b_]=some (Res.res y):=zai (x:=(a_,b_,())) h
def g79:Cfg:={ P:=Try.prog,take:=[],keep:=[],gho:=[],ctx:=[(39,C39)] }
@[simp] theorem g79_s:type_of% (cfg_s (g:=g79) rfl):=cfg_s rfl
theorem w79 {a_ b_} {y} (hp:zfb a_ b_=some y):∃ m,callo g79 0 79 [av .shr a_,av .shr b_] mem0=some (Res.res y,m):=by
 refine st0 [.tmp 4] Try.func79 ?_
 unfold zfb at hp
 simp [Try.f79]
 rcases zad hp with ⟨h_1,hp⟩|⟨h_1,hp⟩
 ·try simp at h_1
  cases hp
  simp [Goal,FnEnd,h_1]
 ·try simp at h_1
  obtain ⟨y_2,h_3,hp⟩:=zaa hp
  have c_4:=zob h_3
  simp at c_4
  try simp [h_1,c_4]
  rcases zad hp with ⟨h_5,hp⟩|⟨h_5,hp⟩
  ·try simp at h_5
   cases hp
   simp [Goal,FnEnd,h_1,h_5]
  ·try simp at h_5
   cases hp
   simp [Goal,FnEnd,h_1,h_5]
theorem pc79:PC Try.prog 79 C79:=pc_of (g:=g79) (zah _ g79_s.2.1 ⟨pc39,trivial⟩) (ent Try.func79) fun x y h=>w79 h

def C66:List AV→Option AV:=specP (X:=TStructure × (List Int) × (List Int) × Unit) fun x=>zdt x.1 x.2.1 x.2.2.1
theorem C66_eq {s a_ b_} {y} (h:zdt s a_ b_=some y):C66 [av .shr s,av .shr a_,av .shr b_]=some (Res.res y):=zai (x:=(s,a_,b_,())) h
def g66:Cfg:={ P:=Try.prog,take:=[],keep:=[((66,3),{ hd:=[1,2,3,7,8],bx:=[],ex:=[7],rt:=[6] }),((66,6),{ hd:=[1,2,3,7,8,9],bx:=[],ex:=[1,2,3,7,8],rt:=[6] })],gho:=[],ctx:=[(33,C33),(79,C79)] }
@[simp] theorem g66_s:type_of% (cfg_s (g:=g66) rfl):=cfg_s rfl
theorem w66 {s a_ b_} {y} (hp:zdt s a_ b_=some y):∃ m,callo g66 0 66 [av .shr s,av .shr a_,av .shr b_] mem0=some (Res.res y,m):=by
 refine st0 [.tmp 6] Try.func66 ?_
 unfold zdt at hp
 obtain ⟨e_1,h_2,hp⟩:=zaa hp
 have b_4:=at_hi h_2
 try simp at b_4
 have c_5:=seg_at' h_2 0 1 (by decide) (ds:=[.sc (.int .i64 e_1)]) rfl
 try simp at c_5
 obtain ⟨e_6,h_7,hp⟩:=zaa hp
 have b_9:=at_hi h_7
 try simp at b_9
 have c_10:=seg_at' h_7 0 1 (by decide) (ds:=[.sc (.int .i64 e_6)]) rfl
 try simp at c_10
 obtain ⟨y_11,h_12,hp⟩:=zaa hp
 have c_13:=zjl h_12
 simp at c_13
 simp [Try.f66,b_4,c_5,b_9,c_10,c_13]
 obtain ⟨r_51,h_52,hp⟩:=zaa hp
 obtain ⟨I_16,I_16_⟩:=exV fun (s_14:Int × Int) (σ:St)=>(σ.env 1=uL .shr a_∧σ.env 2=uL .shr b_∧σ.env 3=uP (1,3)∧σ.env 7=uI s_14.1∧σ.env 8=uI s_14.2∧σ.mem (1,3)=some [cL .shr s.nodes,cL .shr s.next])∧NoBox [(1,3)] σ.mem
 obtain ⟨X_17,X_17_⟩:=exV fun (r_51:Int) (out:Out)=>∃ σ:St,out=.exit 0 σ∧(σ.env 7=uI r_51∧σ.mem (1,3)=some [cL .shr s.nodes,cL .shr s.next])∧NoBox [(1,3)] σ.mem
 refine loopP ({ hd:=[1,2,3,7,8],bx:=[],ex:=[7],rt:=[6] }) I_16 X_17 h_52 (by exact rfl) ?_ ?_ ?_
 ·rw [I_16_]
  exact ⟨by simp [zac,zab],NoBox.restrict (by intro k hk hb;simp at hk hb;simp [hk,hb])⟩
 ·intro s_14 σ_18 a_15 hI hp
  rw [I_16_] at hI
  obtain ⟨q_20,hn_19⟩:=hI
  try simp [q_20]
  rcases zad hp with ⟨h_21,hp⟩|⟨h_21,hp⟩
  ·try simp at h_21
   try simp [q_20,h_21]
   obtain ⟨r_46,h_47,hp⟩:=zaa hp
   obtain ⟨I_24,I_24_⟩:=exV fun (s_22:Int × Int) (σ:St)=>(σ.env 1=uL .shr a_∧σ.env 2=uL .shr b_∧σ.env 3=uP (1,3)∧σ.env 7=uI s_22.1∧σ.env 8=uI s_14.2∧σ.env 9=uI s_22.2∧σ.mem (1,3)=some [cL .shr s.nodes,cL .shr s.next])∧NoBox [(1,3)] σ.mem
   obtain ⟨X_25,X_25_⟩:=exV fun (r_46:Int) (out:Out)=>∃ σ:St,out=.exit 2 σ∧(σ.env 1=uL .shr a_∧σ.env 2=uL .shr b_∧σ.env 3=uP (1,3)∧σ.env 7=uI r_46∧σ.env 8=uI s_14.2∧σ.mem (1,3)=some [cL .shr s.nodes,cL .shr s.next])∧NoBox [(1,3)] σ.mem
   refine loopP ({ hd:=[1,2,3,7,8,9],bx:=[],ex:=[1,2,3,7,8],rt:=[6] }) I_24 X_25 h_47 (by exact rfl) ?_ ?_ ?_
   ·rw [I_24_]
    exact ⟨by simp [zac,zab,q_20,h_21],NoBox.restrict (by intro k hk hb;simp at hk hb;simp [hk,hb,q_20,h_21,hn_19 k (by simp [hk,hb])])⟩
   ·intro s_22 σ_26 a_23 hI hp
    rw [I_24_] at hI
    obtain ⟨q_28,hn_27⟩:=hI
    try simp [h_21,q_28]
    rcases zad hp with ⟨h_29,hp⟩|⟨h_29,hp⟩
    ·try simp at h_29
     obtain ⟨e_30,h_31,hp⟩:=zaa hp
     have b_32:=at_lo h_31
     have b_33:=at_hi h_31
     try simp at b_32 b_33
     have c_34:=seg_at' h_31 0 1 (by decide) (ds:=[.sc (.int .i64 e_30)]) rfl
     try simp at c_34
     obtain ⟨e_35,h_36,hp⟩:=zaa hp
     have b_37:=at_lo h_36
     have b_38:=at_hi h_36
     try simp at b_37 b_38
     have c_39:=seg_at' h_36 0 1 (by decide) (ds:=[.sc (.int .i64 e_35)]) rfl
     try simp at c_39
     obtain ⟨y_40,h_41,hp⟩:=zaa hp
     have c_42:=zjl h_41
     simp at c_42
     obtain ⟨y_43,h_44,hp⟩:=zaa hp
     have c_45:=C79_eq h_44
     simp at c_45
     cases hp
     try simp [h_21,q_28,h_29,b_32,b_33,c_34,b_37,b_38,c_39,c_42,c_45]
     refine zae ?_
     rw [I_24_]
     exact ⟨by simp [zac,zab,h_21,q_28,h_29,b_32,b_33,c_34,b_37,b_38,c_39,c_42,c_45],NoBox.restrict (by intro k hk hb;simp at hk hb;simp [hk,hb,h_21,q_28,h_29,b_32,b_33,c_34,b_37,b_38,c_39,c_42,c_45,hn_27 k (by simp [hk,hb])])⟩
    ·try simp at h_29
     cases hp
     try simp [h_21,q_28,h_29]
     refine zag ?_
     rw [X_25_]
     exact ⟨_,rfl,by simp [zac,zab,h_21,q_28,h_29],NoBox.restrict (by intro k hk hb;simp at hk hb;simp [hk,hb,h_21,q_28,h_29,hn_27 k (by simp [hk,hb])])⟩
   ·intro out hX
    rw [X_25_] at hX
    obtain ⟨σ_48,rfl,q_50,hn_49⟩:=hX
    cases hp
    try simp [h_21,q_50]
    refine zae ?_
    rw [I_16_]
    exact ⟨by simp [zac,zab,h_21,q_50],NoBox.restrict (by intro k hk hb;simp at hk hb;simp [hk,hb,h_21,q_50,hn_49 k (by simp [hk,hb])])⟩
  ·try simp at h_21
   cases hp
   try simp [q_20,h_21]
   refine zag ?_
   rw [X_17_]
   exact ⟨_,rfl,by simp [zac,zab,q_20,h_21],NoBox.restrict (by intro k hk hb;simp at hk hb;simp [hk,hb,q_20,h_21,hn_19 k (by simp [hk,hb])])⟩
 ·intro out hX
  rw [X_17_] at hX
  obtain ⟨σ_53,rfl,q_55,hn_54⟩:=hX
  cases hp
  simp [Goal,FnEnd,q_55]
theorem pc66:PC Try.prog 66 C66:=pc_of (g:=g66) (zah _ g66_s.2.1 ⟨pc33,pc79,trivial⟩) (ent Try.func66) fun x y h=>w66 h

def C43:List AV→Option AV:=specP (X:=TStructure × Unit) fun x=>zfo x.1
theorem C43_eq {s} {y} (h:zfo s=some y):C43 [av .shr s]=some (Res.res y):=zai (x:=(s,())) h
def g43:Cfg:={ P:=Try.prog,take:=[(43,29),(43,46),(43,60)],keep:=[((43,8),{ hd:=[1,2,3,4,5],bx:=[],ex:=[2,4],rt:=[2] }),((43,12),{ hd:=[1,2,3,4,5,6],bx:=[],ex:=[1,2,3,4,5],rt:=[2] })],gho:=[],ctx:=[(12,C12),(30,C30),(31,C31),(64,C64),(65,C65),(66,C66)] }
@[simp] theorem g43_s:type_of% (cfg_s (g:=g43) rfl):=cfg_s rfl
theorem w43 {s} {y} (hp:zfo s=some y):∃ m,callo g43 0 43 [av .shr s] mem0=some (Res.res y,m):=by
 refine st0 [.cell 2 27] Try.func43 ?_
 unfold zfo at hp
 simp [Try.f43]
 rcases zad hp with ⟨h_1,hp⟩|⟨h_1,hp⟩
 ·try simp at h_1
  cases hp
  simp [Goal,FnEnd,retR,rsrc,RSrc.val,nodupR,nodup,tupPart,h_1]
 ·try simp at h_1
  obtain ⟨y_2,h_3,hp⟩:=zaa hp
  have c_4:=C30_eq h_3
  simp at c_4
  obtain ⟨y_5,h_6,hp⟩:=zaa hp
  have c_7:=C12_eq h_6
  simp at c_7
  try simp [h_1,c_4,c_7]
  rcases zad hp with ⟨h_8,hp⟩|⟨h_8,hp⟩
  ·try simp at h_8
   obtain ⟨y_9,h_10,hp⟩:=zaa hp
   have c_11:=C64_eq h_10
   simp at c_11
   try simp [h_1,h_8,c_11]
   obtain ⟨r_58,h_59,hp⟩:=zaa hp
   obtain ⟨I_14,I_14_⟩:=exV fun (s_12:Int × (List TNode) × (List Int)) (σ:St)=>(σ.env 1=uP (1,1)∧σ.env 2=uP (1,2)∧σ.env 3=uL .shr y_9∧σ.env 4=uP (1,4)∧σ.env 5=uI s_12.1∧σ.mem (1,1)=some [cL .shr s.nodes,cL .shr s.next]∧σ.mem (1,2)=some [.l .own 0 [],.l .own 0 []]∧σ.mem (1,4)=some [cL .own s_12.2.1,cL .own s_12.2.2])∧NoBox [(1,1),(1,2),(1,4)] σ.mem
   obtain ⟨X_15,X_15_⟩:=exV fun (r_58:(List TNode) × (List Int)) (out:Out)=>∃ σ:St,out=.exit 0 σ∧(σ.env 2=uP (1,2)∧σ.env 4=uP (1,4)∧σ.mem (1,1)=some [cL .shr s.nodes,cL .shr s.next]∧σ.mem (1,2)=some [.l .own 0 [],.l .own 0 []]∧σ.mem (1,4)=some [cL .own r_58.1,cL .own r_58.2])∧NoBox [(1,1),(1,2),(1,4)] σ.mem
   refine loopP ({ hd:=[1,2,3,4,5],bx:=[],ex:=[2,4],rt:=[2] }) I_14 X_15 h_59 (by exact rfl) ?_ ?_ ?_
   ·rw [I_14_]
    exact ⟨by simp [zac,zab,h_1,h_8],NoBox.restrict (by intro k hk hb;simp at hk hb;simp [hk,hb,h_1,h_8])⟩
   ·intro s_12 σ_16 a_13 hI hp
    rw [I_14_] at hI
    obtain ⟨q_18,hn_17⟩:=hI
    try simp [h_1,h_8,q_18]
    rcases zad hp with ⟨h_19,hp⟩|⟨h_19,hp⟩
    ·try simp at h_19
     obtain ⟨e_20,h_21,hp⟩:=zaa hp
     have b_22:=at_lo h_21
     have b_23:=at_hi h_21
     try simp at b_22 b_23
     have c_24:=seg_at' h_21 0 1 (by decide) (ds:=[.sl e_20.length (encL e_20)]) rfl
     try simp at c_24
     obtain ⟨y_25,h_26,hp⟩:=zaa hp
     have c_27:=C65_eq h_26
     simp at c_27
     obtain ⟨_,h_28,hp⟩:=zaa hp
     have b_29:=zau h_28
     try simp at b_29
     try simp [h_1,h_8,q_18,h_19,b_22,b_23,c_24,c_27,b_29]
     obtain ⟨r_53,h_54,hp⟩:=zaa hp
     obtain ⟨I_32,I_32_⟩:=exV fun (s_30:Int × (List Int)) (σ:St)=>(σ.env 1=uP (1,1)∧σ.env 2=uP (1,2)∧σ.env 3=uL .shr y_9∧σ.env 4=uP (1,4)∧σ.env 5=uI s_12.1∧σ.env 6=uI s_30.1∧σ.mem (1,1)=some [cL .shr s.nodes,cL .shr s.next]∧σ.mem (1,2)=some [.l .own 0 [],.l .own 0 []]∧σ.mem (1,4)=some [cL .own (s_12.2.1 ++ [y_25]),cL .own s_30.2])∧NoBox [(1,1),(1,2),(1,4)] σ.mem
     obtain ⟨X_33,X_33_⟩:=exV fun (r_53:(List Int)) (out:Out)=>∃ σ:St,out=.exit 2 σ∧(σ.env 1=uP (1,1)∧σ.env 2=uP (1,2)∧σ.env 3=uL .shr y_9∧σ.env 4=uP (1,4)∧σ.env 5=uI s_12.1∧σ.mem (1,1)=some [cL .shr s.nodes,cL .shr s.next]∧σ.mem (1,2)=some [.l .own 0 [],.l .own 0 []]∧σ.mem (1,4)=some [cL .own (s_12.2.1 ++ [y_25]),cL .own r_53])∧NoBox [(1,1),(1,2),(1,4)] σ.mem
     refine loopP ({ hd:=[1,2,3,4,5,6],bx:=[],ex:=[1,2,3,4,5],rt:=[2] }) I_32 X_33 h_54 (by exact rfl) ?_ ?_ ?_
     ·rw [I_32_]
      exact ⟨by simp [zac,zab,h_1,h_8,q_18,h_19],NoBox.restrict (by intro k hk hb;simp at hk hb;simp [hk,hb,h_1,h_8,q_18,h_19,hn_17 k (by simp [hk,hb])])⟩
     ·intro s_30 σ_34 a_31 hI hp
      rw [I_32_] at hI
      obtain ⟨q_36,hn_35⟩:=hI
      try simp [h_1,h_8,h_19,q_36]
      rcases zad hp with ⟨h_37,hp⟩|⟨h_37,hp⟩
      ·try simp at h_37
       obtain ⟨e_38,h_39,hp⟩:=zaa hp
       cases Option.some.inj (h_21.symm.trans h_39)
       have b_40:=at_lo h_21
       have b_41:=at_hi h_21
       try simp at b_40 b_41
       have c_42:=seg_at' h_21 0 1 (by decide) (ds:=[.sl e_20.length (encL e_20)]) rfl
       try simp at c_42
       obtain ⟨e_43,h_44,hp⟩:=zaa hp
       have b_45:=at_lo h_44
       have b_46:=at_hi h_44
       try simp at b_45 b_46
       have c_47:=seg_at' h_44 0 1 (by decide) (ds:=[.sl e_43.length (encL e_43)]) rfl
       try simp at c_47
       obtain ⟨y_48,h_49,hp⟩:=zaa hp
       have c_50:=C66_eq h_49
       simp at c_50
       obtain ⟨_,h_51,hp⟩:=zaa hp
       have b_52:=zau h_51
       try simp at b_52
       cases hp
       try simp [h_1,h_8,h_19,q_36,h_37,b_40,b_41,c_42,b_45,b_46,c_47,c_50,b_52]
       refine zae ?_
       rw [I_32_]
       exact ⟨by simp [zac,zab,h_1,h_8,h_19,q_36,h_37,b_40,b_41,c_42,b_45,b_46,c_47,c_50,b_52],NoBox.restrict (by intro k hk hb;simp at hk hb;simp [hk,hb,h_1,h_8,h_19,q_36,h_37,b_40,b_41,c_42,b_45,b_46,c_47,c_50,b_52,hn_35 k (by simp [hk,hb])])⟩
      ·try simp at h_37
       cases hp
       try simp [h_1,h_8,h_19,q_36,h_37]
       refine zag ?_
       rw [X_33_]
       exact ⟨_,rfl,by simp [zac,zab,h_1,h_8,h_19,q_36,h_37],NoBox.restrict (by intro k hk hb;simp at hk hb;simp [hk,hb,h_1,h_8,h_19,q_36,h_37,hn_35 k (by simp [hk,hb])])⟩
     ·intro out hX
      rw [X_33_] at hX
      obtain ⟨σ_55,rfl,q_57,hn_56⟩:=hX
      cases hp
      try simp [h_1,h_8,h_19,q_57]
      refine zae ?_
      rw [I_14_]
      exact ⟨by simp [zac,zab,h_1,h_8,h_19,q_57],NoBox.restrict (by intro k hk hb;simp at hk hb;simp [hk,hb,h_1,h_8,h_19,q_57,hn_56 k (by simp [hk,hb])])⟩
    ·try simp at h_19
     cases hp
     try simp [h_1,h_8,q_18,h_19]
     refine zag ?_
     rw [X_15_]
     exact ⟨_,rfl,by simp [zac,zab,h_1,h_8,q_18,h_19],NoBox.restrict (by intro k hk hb;simp at hk hb;simp [hk,hb,h_1,h_8,q_18,h_19,hn_17 k (by simp [hk,hb])])⟩
   ·intro out hX
    rw [X_15_] at hX
    obtain ⟨σ_60,rfl,q_62,hn_61⟩:=hX
    cases hp
    simp [Goal,FnEnd,retR,rsrc,RSrc.val,nodupR,nodup,tupPart,h_1,h_8,q_62]
  ·try simp at h_8
   obtain ⟨y_63,h_64,hp⟩:=zaa hp
   have c_65:=C31_eq h_64
   simp at c_65
   cases hp
   simp [Goal,FnEnd,retR,rsrc,RSrc.val,nodupR,nodup,tupPart,h_1,h_8,c_65]
theorem pc43:PC Try.prog 43 C43:=pc_of (g:=g43) (zah _ g43_s.2.1 ⟨pc12,pc30,pc31,pc64,pc65,pc66,trivial⟩) (ent Try.func43) fun x y h=>w43 h

def C71:List C→List AV→Option (AV × List C):=specX (T:=TL1Cur) (X:=Unit) (R:=(Int)) fun x t=>zcq t
theorem C71_eq {c} {y} (h:zcq c=some y):C71 (bxT c) []=some (Res.res y.1,bxT y.2):=zgx (T:=TL1Cur) (X:=Unit) (R:=(Int)) (F:=fun x t=>zcq t ) (x:=(())) h
def g71:Cfg:={ P:=Try.prog,take:=[],keep:=[],gho:=[],ctx:=[] }
@[simp] theorem g71_s:type_of% (cfg_s (g:=g71) rfl):=cfg_s rfl
theorem w71 {c} {mem:Mem} (hT:Tight 0 mem) (hq0:mem (0,0)=some [cL .shr c.b,cI c.i,cI c.h]) (hn0:NoBox [(0,0)] mem) {y} (hp:zcq c=some y):∃ m,callo g71 0 71 [.one (.ptr (0,0) 0)] mem=some (Res.res y.1,m)∧(m (0,0)=some [cL .shr y.2.b,cI y.2.i,cI y.2.h]∧Tight 0 m∧NoBox [(0,0)] m):=by
 refine stD [.tmp 2] Try.func71 fun QV QV_=>?_
 unfold zcq at hp
 simp [Try.f71,hq0]
 rcases zad hp with ⟨h_1,hp⟩|⟨h_1,hp⟩
 ·try simp at h_1
  obtain ⟨e_2,h_3,hp⟩:=zaa hp
  have b_4:=at_lo h_3
  have b_5:=at_hi h_3
  try simp at b_4 b_5
  have c_6:=seg_at' h_3 0 1 (by decide) (ds:=[.sc (.int .u8 e_2.v)]) rfl
  try simp at c_6
  cases hp
  simp [Goal,FnEndD,retR,rsrc,RSrc.val,nodupR,nodup,tupPart,hq0,h_1,b_4,b_5,c_6,znx Try.underlying5 Try.underlying3]
  rw [QV_]
  exact ⟨by simp [hq0,h_1,b_4,b_5,c_6,znx Try.underlying5 Try.underlying3],zbz _ _,zca (L':=[(0,0)]) (by intro k hk;simp at hk;simp [hk,hq0,h_1,b_4,b_5,c_6,znx Try.underlying5 Try.underlying3,hn0 k (by simp [hk])]) (by simp)⟩
 ·try simp at h_1
  cases hp
  simp [Goal,FnEndD,retR,rsrc,RSrc.val,nodupR,nodup,tupPart,hq0,h_1]
  rw [QV_]
  exact ⟨by simp [hq0,h_1],zbz _ _,zca (L':=[(0,0)]) (by intro k hk;simp at hk;simp [hk,hq0,h_1,hn0 k (by simp [hk])]) (by simp)⟩
theorem px71:PX Try.prog 71 C71:=px_of (g:=g71) (zah [] rfl trivial) (ent Try.func71) fun x t y h=>by
 obtain ⟨m,h1,h2,_,h3⟩:=w71 (mem:=upd mem0 (0,0) (some (bxT t))) (Tight.upd (zak _) (by simp) (by simp)) (by simp [upd,bxT]) (zgb _ _) h
 exact ⟨m,h1,h2,h3⟩

def C45:List C→List AV→Option (AV × List C):=specX (T:=TL1Cur) (X:=Int × Unit) (R:=(Int)) fun x t=>zan t x.1
theorem zft {c n_} {y} (h:zan c n_=some y):C45 (bxT c) [av .shr n_]=some (Res.res y.1,bxT y.2):=zgx (T:=TL1Cur) (X:=Int × Unit) (R:=(Int)) (F:=fun x t=>zan t x.1) (x:=(n_,())) h
def g45:Cfg:={ P:=Try.prog,take:=[],keep:=[],gho:=[],ctx:=[],pctx:=[(71,C71)] }
@[simp] theorem g45_s:type_of% (cfg_s (g:=g45) rfl):=cfg_s rfl
theorem zmi:PxOK g45 71 C71:=⟨rfl,rfl,Try.f71,Try.f71.body.getD .skip,Try.func71,by kernel_rfl⟩
theorem w45 {c n_} {mem:Mem} (hT:Tight 0 mem) (hq0:mem (0,0)=some [cL .shr c.b,cI c.i,cI c.h]) (hn0:NoBox [(0,0)] mem) {y} (hp:zan c n_=some y):∃ m,callo g45 0 45 [.one (.ptr (0,0) 0),av .shr n_] mem=some (Res.res y.1,m)∧(m (0,0)=some [cL .shr y.2.b,cI y.2.i,cI y.2.h]∧Tight 0 m∧NoBox [(0,0)] m):=by
 refine stD [.tmp 4] Try.func45 fun QV QV_=>?_
 unfold zan at hp
 simp [Try.f45,hq0]
 rcases zad hp with ⟨h_1,hp⟩|⟨h_1,hp⟩
 ·try simp at h_1
  cases hp
  simp [Goal,FnEndD,retR,rsrc,RSrc.val,nodupR,nodup,tupPart,hq0,h_1]
  rw [QV_]
  exact ⟨by simp [hq0,h_1],zbz _ _,zca (L':=[(0,0)]) (by intro k hk;simp at hk;simp [hk,hq0,h_1,hn0 k (by simp [hk])]) (by simp)⟩
 ·try simp at h_1
  try simp [hq0,h_1]
  rcases zad hp with ⟨h_2,hp⟩|⟨h_2,hp⟩
  ·try simp at h_2
   obtain ⟨y_3,h_4,hp⟩:=zaa hp
   try simp [hq0,h_1,h_2]
   refine zaj (0,0) (C71_eq h_4) zmi (by simp [hq0,h_1,h_2]) (by simp) (by simp [hq0,h_1,h_2]) (.inr (by decide)) ?_
   obtain ⟨z_5,h_6,hp⟩:=zaa hp
   have c_7:=fun t x y=>tb_rem Try.prog t x y h_6
   cases hp
   simp [Goal,FnEndD,retR,rsrc,RSrc.val,nodupR,nodup,tupPart,hq0,h_1,h_2,c_7]
   rw [QV_]
   exact ⟨by simp [hq0,h_1,h_2,c_7],zbz _ _,zca (L':=[(0,0)]) (by intro k hk;simp at hk;simp [hk,hq0,h_1,h_2,c_7,hn0 k (by simp [hk])]) (by simp)⟩
  ·try simp at h_2
   obtain ⟨y_8,h_9,hp⟩:=zaa hp
   try simp [hq0,h_1,h_2]
   refine zaj (0,0) (C71_eq h_9) zmi (by simp [hq0,h_1,h_2]) (by simp) (by simp [hq0,h_1,h_2]) (.inr (by decide)) ?_
   obtain ⟨y_10,h_11,hp⟩:=zaa hp
   try simp [hq0,h_1,h_2]
   refine zaj (0,0) (C71_eq h_11) zmi (by simp [hq0,h_1,h_2]) (by simp) (by simp [hq0,h_1,h_2]) (.inr (by decide)) ?_
   obtain ⟨y_12,h_13,hp⟩:=zaa hp
   try simp [hq0,h_1,h_2]
   refine zaj (0,0) (C71_eq h_13) zmi (by simp [hq0,h_1,h_2]) (by simp) (by simp [hq0,h_1,h_2]) (.inr (by decide)) ?_
   obtain ⟨y_14,h_15,hp⟩:=zaa hp
   try simp [hq0,h_1,h_2]
   refine zaj (0,0) (C71_eq h_15) zmi (by simp [hq0,h_1,h_2]) (by simp) (by simp [hq0,h_1,h_2]) (.inr (by decide)) ?_
   obtain ⟨z_16,h_17,hp⟩:=zaa hp
   have c_18:=fun t x y=>tb_rem Try.prog t x y h_17
   cases hp
   simp [Goal,FnEndD,retR,rsrc,RSrc.val,nodupR,nodup,tupPart,hq0,h_1,h_2,c_18]
   rw [QV_]
   exact ⟨by simp [hq0,h_1,h_2,c_18],zbz _ _,zca (L':=[(0,0)]) (by intro k hk;simp at hk;simp [hk,hq0,h_1,h_2,c_18,hn0 k (by simp [hk])]) (by simp)⟩
theorem px45:PX Try.prog 45 C45:=px_of (g:=g45) (zfs [] rfl trivial [] rfl trivial [] rfl trivial [(71,C71)] rfl ⟨px71,trivial⟩) (ent Try.func45) fun x t y h=>by
 obtain ⟨m,h1,h2,_,h3⟩:=w45 (mem:=upd mem0 (0,0) (some (bxT t))) (Tight.upd (zak _) (by simp) (by simp)) (by simp [upd,bxT]) (zgb _ _) h
 exact ⟨m,h1,h2,h3⟩

def C19:List C→List AV→Option (AV × List C):=specX (T:=TL1Cur) (X:=Int × Unit) (R:=(Bool)) fun x t=>zcp t x.1
theorem C19_eq {c n_} {y} (h:zcp c n_=some y):C19 (bxT c) [av .shr n_]=some (Res.res y.1,bxT y.2):=zgx (T:=TL1Cur) (X:=Int × Unit) (R:=(Bool)) (F:=fun x t=>zcp t x.1) (x:=(n_,())) h
def g19:Cfg:={ P:=Try.prog,take:=[],keep:=[],gho:=[],ctx:=[],pctx:=[(45,C45)] }
@[simp] theorem g19_s:type_of% (cfg_s (g:=g19) rfl):=cfg_s rfl
theorem g19_x45:PxOK g19 45 C45:=⟨rfl,rfl,Try.f45,Try.f45.body.getD .skip,Try.func45,by kernel_rfl⟩
theorem w19 {c n_} {mem:Mem} (hT:Tight 0 mem) (hq0:mem (0,0)=some [cL .shr c.b,cI c.i,cI c.h]) (hn0:NoBox [(0,0)] mem) {y} (hp:zcp c n_=some y):∃ m,callo g19 0 19 [.one (.ptr (0,0) 0),av .shr n_] mem=some (Res.res y.1,m)∧(m (0,0)=some [cL .shr y.2.b,cI y.2.i,cI y.2.h]∧Tight 0 m∧NoBox [(0,0)] m):=by
 refine stD [.tmp 4] Try.func19 fun QV QV_=>?_
 unfold zcp at hp
 obtain ⟨y_1,h_2,hp⟩:=zaa hp
 simp [Try.f19,hq0]
 refine zaj (0,0) (zft h_2) g19_x45 (by simp [hq0]) (by simp) (by simp [hq0]) (.inr (by decide)) ?_
 cases hp
 simp [Goal,FnEndD,retR,rsrc,RSrc.val,nodupR,nodup,tupPart,hq0]
 rw [QV_]
 exact ⟨by simp [hq0],zbz _ _,zca (L':=[(0,0)]) (by intro k hk;simp at hk;simp [hk,hq0,hn0 k (by simp [hk])]) (by simp)⟩
theorem px19:PX Try.prog 19 C19:=px_of (g:=g19) (zfs [] rfl trivial [] rfl trivial [] rfl trivial [(45,C45)] rfl ⟨px45,trivial⟩) (ent Try.func19) fun x t y h=>by
 obtain ⟨m,h1,h2,_,h3⟩:=w19 (mem:=upd mem0 (0,0) (some (bxT t))) (Tight.upd (zak _) (by simp) (by simp)) (by simp [upd,bxT]) (zgb _ _) h
 exact ⟨m,h1,h2,h3⟩

def C42:List C→List AV→Option (AV × List C):=specX (T:=TL1Cur) (X:=Int × Unit) (R:=(THeap)) fun x t=>zdy t x.1
theorem C42_eq {c vars} {y} (h:zdy c vars=some y):C42 (bxT c) [av .shr vars]=some (Res.res y.1,bxT y.2):=zgx (T:=TL1Cur) (X:=Int × Unit) (R:=(THeap)) (F:=fun x t=>zdy t x.1) (x:=(vars,())) h
def g42:Cfg:={ P:=Try.prog,take:=[(42,29),(42,53)],keep:=[((42,4),{ hd:=[0,1,4,5,6,7],bx:=[],ex:=[0,1,4,5,6],rt:=[4] }),((42,11),{ hd:=[0,1,4,5,6,9],bx:=[],ex:=[4,5],rt:=[4] })],gho:=[],ctx:=[(63,C63)],pctx:=[(19,C19),(45,C45)] }
@[simp] theorem g42_s:type_of% (cfg_s (g:=g42) rfl):=cfg_s rfl
theorem g42_x19:PxOK g42 19 C19:=⟨rfl,rfl,Try.f19,Try.f19.body.getD .skip,Try.func19,by kernel_rfl⟩
theorem g42_x45:PxOK g42 45 C45:=⟨rfl,rfl,Try.f45,Try.f45.body.getD .skip,Try.func45,by kernel_rfl⟩
theorem w42 {c vars} {mem:Mem} (hT:Tight 0 mem) (hq0:mem (0,0)=some [cL .shr c.b,cI c.i,cI c.h]) (hn0:NoBox [(0,0)] mem) {y} (hp:zdy c vars=some y):∃ m,callo g42 0 42 [.one (.ptr (0,0) 0),av .shr vars] mem=some (Res.res y.1,m)∧(m (0,0)=some [cL .shr y.2.b,cI y.2.i,cI y.2.h]∧Tight 0 m∧NoBox [(0,0)] m):=by
 refine stD [.cell 4 36] Try.func42 fun QV QV_=>?_
 unfold zdy at hp
 have n_1:=hn0 (1,4) (by simp)
 have n_2:=hn0 (1,5) (by simp)
 obtain ⟨y_3,h_4,hp⟩:=zaa hp
 simp [Try.f42,hq0,n_1,n_2]
 refine zaj (0,0) (zft h_4) g42_x45 (by simp [hq0]) (by simp) (by simp [hq0]) (.inr (by decide)) ?_
 try simp [hq0]
 obtain ⟨r_22,h_23,hp⟩:=zaa hp
 obtain ⟨I_7,I_7_⟩:=exV fun (s_5:Int × (List U8) × Int × Int × (List Int)) (σ:St)=>(σ.env 0=uP (0,0)∧σ.env 1=uI vars∧σ.env 4=uP (1,4)∧σ.env 5=uP (1,5)∧σ.env 6=uI y_3.1∧σ.env 7=uI s_5.1∧σ.mem (0,0)=some [cL .shr s_5.2.1,cI s_5.2.2.1,cI s_5.2.2.2.1]∧σ.mem (1,4)=some [.l .own 0 [],.l .own 0 []]∧σ.mem (1,5)=some [.l .own 0 [],cL .own s_5.2.2.2.2])∧NoBox [(0,0),(1,4),(1,5)] σ.mem
 obtain ⟨X_8,X_8_⟩:=exV fun (r_22:(List U8) × Int × Int × (List Int)) (out:Out)=>∃ σ:St,out=.exit 0 σ∧(σ.env 0=uP (0,0)∧σ.env 1=uI vars∧σ.env 4=uP (1,4)∧σ.env 5=uP (1,5)∧σ.env 6=uI y_3.1∧σ.mem (0,0)=some [cL .shr r_22.1,cI r_22.2.1,cI r_22.2.2.1]∧σ.mem (1,4)=some [.l .own 0 [],.l .own 0 []]∧σ.mem (1,5)=some [.l .own 0 [],cL .own r_22.2.2.2])∧NoBox [(0,0),(1,4),(1,5)] σ.mem
 refine loopP ({ hd:=[0,1,4,5,6,7],bx:=[],ex:=[0,1,4,5,6],rt:=[4] }) I_7 X_8 h_23 (by exact rfl) ?_ ?_ ?_
 ·rw [I_7_]
  exact ⟨by simp [zac,zab,hq0],NoBox.restrict (by intro k hk hb;simp at hk hb;simp [hk,hb,hq0,hn0 k (by simp [hk,hb])])⟩
 ·intro s_5 σ_9 a_6 hI hp
  rw [I_7_] at hI
  obtain ⟨q_11,hn_10⟩:=hI
  try simp [hq0,q_11]
  rcases zad hp with ⟨h_12,hp⟩|⟨h_12,hp⟩
  ·try simp at h_12
   obtain ⟨y_13,h_14,hp⟩:=zaa hp
   try simp [hq0,q_11,h_12]
   refine zaj (0,0) (C19_eq h_14) g42_x19 (by simp [hq0,q_11,h_12]) (by simp) (by simp [hq0,q_11,h_12]) (.inr (by decide)) ?_
   try simp [hq0,q_11,h_12]
   rcases zad hp with ⟨h_15,hp⟩|⟨h_15,hp⟩
   ·try simp at h_15
    obtain ⟨y_16,h_17,hp⟩:=zaa hp
    try simp [hq0,q_11,h_12,h_15]
    refine zaj (0,0) (zft h_17) g42_x45 (by simp [hq0,q_11,h_12,h_15]) (by simp) (by simp [hq0,q_11,h_12,h_15]) (.inr (by decide)) ?_
    obtain ⟨_,h_18,hp⟩:=zaa hp
    have b_19:=zau h_18
    try simp at b_19
    cases hp
    try simp [hq0,q_11,h_12,h_15,b_19]
    refine zae ?_
    rw [I_7_]
    exact ⟨by simp [zac,zab,hq0,q_11,h_12,h_15,b_19],NoBox.restrict (by intro k hk hb;simp at hk hb;simp [hk,hb,hq0,q_11,h_12,h_15,b_19,hn_10 k (by simp [hk,hb])])⟩
   ·try simp at h_15
    obtain ⟨_,h_20,hp⟩:=zaa hp
    have b_21:=zau h_20
    try simp at b_21
    cases hp
    try simp [hq0,q_11,h_12,h_15,b_21]
    refine zae ?_
    rw [I_7_]
    exact ⟨by simp [zac,zab,hq0,q_11,h_12,h_15,b_21],NoBox.restrict (by intro k hk hb;simp at hk hb;simp [hk,hb,hq0,q_11,h_12,h_15,b_21,hn_10 k (by simp [hk,hb])])⟩
  ·try simp at h_12
   cases hp
   try simp [hq0,q_11,h_12]
   refine zag ?_
   rw [X_8_]
   exact ⟨_,rfl,by simp [zac,zab,hq0,q_11,h_12],NoBox.restrict (by intro k hk hb;simp at hk hb;simp [hk,hb,hq0,q_11,h_12,hn_10 k (by simp [hk,hb])])⟩
 ·intro out hX
  rw [X_8_] at hX
  obtain ⟨σ_24,rfl,q_26,hn_25⟩:=hX
  try simp [hq0,q_26]
  obtain ⟨r_47,h_48,hp⟩:=zaa hp
  obtain ⟨I_29,I_29_⟩:=exV fun (s_27:Int × (List U8) × Int × Int × (List Int)) (σ:St)=>(σ.env 0=uP (0,0)∧σ.env 1=uI vars∧σ.env 4=uP (1,4)∧σ.env 5=uP (1,5)∧σ.env 6=uI y_3.1∧σ.env 9=uI s_27.1∧σ.mem (0,0)=some [cL .shr s_27.2.1,cI s_27.2.2.1,cI s_27.2.2.2.1]∧σ.mem (1,4)=some [.l .own 0 [],.l .own 0 []]∧σ.mem (1,5)=some [cL .own s_27.2.2.2.2,cL .own r_22.2.2.2])∧NoBox [(0,0),(1,4),(1,5)] σ.mem
  obtain ⟨X_30,X_30_⟩:=exV fun (r_47:(List U8) × Int × Int × (List Int)) (out:Out)=>∃ σ:St,out=.exit 2 σ∧(σ.env 4=uP (1,4)∧σ.env 5=uP (1,5)∧σ.mem (0,0)=some [cL .shr r_47.1,cI r_47.2.1,cI r_47.2.2.1]∧σ.mem (1,4)=some [.l .own 0 [],.l .own 0 []]∧σ.mem (1,5)=some [cL .own r_47.2.2.2,cL .own r_22.2.2.2])∧NoBox [(0,0),(1,4),(1,5)] σ.mem
  refine loopP ({ hd:=[0,1,4,5,6,9],bx:=[],ex:=[4,5],rt:=[4] }) I_29 X_30 h_48 (by exact rfl) ?_ ?_ ?_
  ·rw [I_29_]
   exact ⟨by simp [zac,zab,hq0,q_26],NoBox.restrict (by intro k hk hb;simp at hk hb;simp [hk,hb,hq0,q_26,hn_25 k (by simp [hk,hb])])⟩
  ·intro s_27 σ_31 a_28 hI hp
   rw [I_29_] at hI
   obtain ⟨q_33,hn_32⟩:=hI
   try simp [hq0,q_33]
   rcases zad hp with ⟨h_34,hp⟩|⟨h_34,hp⟩
   ·try simp at h_34
    obtain ⟨y_35,h_36,hp⟩:=zaa hp
    try simp [hq0,q_33,h_34]
    refine zaj (0,0) (zft h_36) g42_x45 (by simp [hq0,q_33,h_34]) (by simp) (by simp [hq0,q_33,h_34]) (.inr (by decide)) ?_
    try simp [hq0,q_33,h_34]
    rcases zad hp with ⟨h_37,hp⟩|⟨h_37,hp⟩
    ·try simp at h_37
     obtain ⟨y_38,h_39,hp⟩:=zaa hp
     try simp [hq0,q_33,h_34,h_37]
     refine zaj (0,0) (C19_eq h_39) g42_x19 (by simp [hq0,q_33,h_34,h_37]) (by simp) (by simp [hq0,q_33,h_34,h_37]) (.inr (by decide)) ?_
     try simp [hq0,q_33,h_34,h_37]
     rcases zad hp with ⟨h_40,hp⟩|⟨h_40,hp⟩
     ·try simp at h_40
      obtain ⟨_,h_41,hp⟩:=zaa hp
      have b_42:=zau h_41
      try simp at b_42
      cases hp
      try simp [hq0,q_33,h_34,h_37,h_40,b_42]
      refine zae ?_
      rw [I_29_]
      exact ⟨by simp [zac,zab,hq0,q_33,h_34,h_37,h_40,b_42],NoBox.restrict (by intro k hk hb;simp at hk hb;simp [hk,hb,hq0,q_33,h_34,h_37,h_40,b_42,hn_32 k (by simp [hk,hb])])⟩
     ·try simp at h_40
      obtain ⟨_,h_43,hp⟩:=zaa hp
      have b_44:=zau h_43
      try simp at b_44
      cases hp
      try simp [hq0,q_33,h_34,h_37,h_40,b_44]
      refine zae ?_
      rw [I_29_]
      exact ⟨by simp [zac,zab,hq0,q_33,h_34,h_37,h_40,b_44],NoBox.restrict (by intro k hk hb;simp at hk hb;simp [hk,hb,hq0,q_33,h_34,h_37,h_40,b_44,hn_32 k (by simp [hk,hb])])⟩
    ·try simp at h_37
     obtain ⟨_,h_45,hp⟩:=zaa hp
     have b_46:=zau h_45
     try simp at b_46
     cases hp
     try simp [hq0,q_33,h_34,h_37,b_46]
     refine zae ?_
     rw [I_29_]
     exact ⟨by simp [zac,zab,hq0,q_33,h_34,h_37,b_46],NoBox.restrict (by intro k hk hb;simp at hk hb;simp [hk,hb,hq0,q_33,h_34,h_37,b_46,hn_32 k (by simp [hk,hb])])⟩
   ·try simp at h_34
    cases hp
    try simp [hq0,q_33,h_34]
    refine zag ?_
    rw [X_30_]
    exact ⟨_,rfl,by simp [zac,zab,hq0,q_33,h_34],NoBox.restrict (by intro k hk hb;simp at hk hb;simp [hk,hb,hq0,q_33,h_34,hn_32 k (by simp [hk,hb])])⟩
  ·intro out hX
   rw [X_30_] at hX
   obtain ⟨σ_49,rfl,q_51,hn_50⟩:=hX
   obtain ⟨y_52,h_53,hp⟩:=zaa hp
   have c_54:=C63_eq h_53
   simp at c_54
   cases hp
   simp [Goal,FnEndD,retR,rsrc,RSrc.val,nodupR,nodup,tupPart,hq0,q_51,c_54]
   rw [QV_]
   exact ⟨by simp [hq0,q_51,c_54],zbz _ _,zca (L':=[(0,0),(1,4),(1,5)]) (by intro k hk;simp at hk;simp [hk,hq0,q_51,c_54,hn_50 k (by simp [hk])]) (by simp)⟩
theorem px42:PX Try.prog 42 C42:=px_of (g:=g42) (zfs [(63,C63)] rfl ⟨pc63,trivial⟩ [] rfl trivial [] rfl trivial [(19,C19),(45,C45)] rfl ⟨px19,px45,trivial⟩) (ent Try.func42) fun x t y h=>by
 obtain ⟨m,h1,h2,_,h3⟩:=w42 (mem:=upd mem0 (0,0) (some (bxT t))) (Tight.upd (zak _) (by simp) (by simp)) (by simp [upd,bxT]) (zgb _ _) h
 exact ⟨m,h1,h2,h3⟩

def C18:List C→List AV→Option (AV × List C):=specX (T:=TL1Cur) (X:=Int × Unit) (R:=(TStructure)) fun x t=>zcv t x.1
theorem C18_eq {c vars} {y} (h:zcv c vars=some y):C18 (bxT c) [av .shr vars]=some (Res.res y.1,bxT y.2):=zgx (T:=TL1Cur) (X:=Int × Unit) (R:=(TStructure)) (F:=fun x t=>zcv t x.1) (x:=(vars,())) h
def g18:Cfg:={ P:=Try.prog,take:=[(18,67)],keep:=[((18,6),{ hd:=[0,1,4,5,6,7],bx:=[],ex:=[4,5],rt:=[4] })],gho:=[((18,11),[.thaw (.at 5 0) 1080 4,.thaw (.ixk (1,1080) 8 4 1) 108641 1]),((18,13),[.thaw (.at 5 0) 1080 4]),((18,15),[.thaw (.at 5 1) 1081 1]),((18,2000011),[.frz (.ixk (1,1080) 8 4 1),.frz (.at 5 0)]),((18,2000013),[.frz (.at 5 0)]),((18,2000015),[.frz (.at 5 1)])],ctx:=[(43,C43),(44,C44)],away:=[(18,41,4000000),(18,45,4000000),(18,60,4000000)],pctx:=[(19,C19),(42,C42),(45,C45)] }
@[simp] theorem g18_s:type_of% (cfg_s (g:=g18) rfl):=cfg_s rfl
theorem g18_x19:PxOK g18 19 C19:=⟨rfl,rfl,Try.f19,Try.f19.body.getD .skip,Try.func19,by kernel_rfl⟩
theorem g18_x42:PxOK g18 42 C42:=⟨rfl,rfl,Try.f42,Try.f42.body.getD .skip,Try.func42,by kernel_rfl⟩
theorem zgn:PxOK g18 45 C45:=⟨rfl,rfl,Try.f45,Try.f45.body.getD .skip,Try.func45,by kernel_rfl⟩
@[simp] theorem g18_wa (d f dst key):awayB g18 d f dst key=awayL [(18,41,4000000),(18,45,4000000),(18,60,4000000)] d f dst key:=rfl
@[simp] theorem g18_wl (d f a key):lateB g18 d f a key=lateL [(18,41,4000000),(18,45,4000000),(18,60,4000000)] d f a key:=rfl
theorem w18 {c vars} {mem:Mem} (hT:Tight 0 mem) (hq0:mem (0,0)=some [cL .shr c.b,cI c.i,cI c.h]) (hn0:NoBox [(0,0)] mem) {y} (hp:zcv c vars=some y):∃ m,callo g18 0 18 [.one (.ptr (0,0) 0),av .shr vars] mem=some (Res.res y.1,m)∧(m (0,0)=some [cL .shr y.2.b,cI y.2.i,cI y.2.h]∧Tight 0 m∧NoBox [(0,0)] m):=by
 refine stD [.cell 4 27] Try.func18 fun QV QV_=>?_
 unfold zcv at hp
 have n_1:=hn0 (1,4) (by simp)
 obtain ⟨y_2,h_3,hp⟩:=zaa hp
 simp [Try.f18,hq0,n_1]
 refine zaj (0,0) (C42_eq h_3) g18_x42 (by simp [hq0]) (by simp) (by simp [hq0]) (.inr (by decide)) ?_
 obtain ⟨y_4,h_5,hp⟩:=zaa hp
 have c_6:=C44_eq h_5
 simp at c_6
 have n_7:=hn0 (1,5) (by simp)
 obtain ⟨y_8,h_9,hp⟩:=zaa hp
 try simp [hq0,c_6,n_7]
 refine zaj (0,0) (C19_eq h_9) g18_x19 (by simp [hq0]) (by simp) (by simp [hq0]) (.inr (by decide)) ?_
 try simp [hq0]
 rcases zad hp with ⟨h_10,hp⟩|⟨h_10,hp⟩
 ·try simp at h_10
  obtain ⟨y_11,h_12,hp⟩:=zaa hp
  try simp [hq0,h_10]
  refine zaj (0,0) (zft h_12) zgn (by simp [hq0,h_10]) (by simp) (by simp [hq0,h_10]) (.inr (by decide)) ?_
  try simp [hq0,h_10]
  obtain ⟨r_69,h_70,hp⟩:=zaa hp
  obtain ⟨I_15,I_15_⟩:=exV fun (s_13:Int × (List U8) × Int × Int × (List TNode) × (List Int)) (σ:St)=>(σ.env 0=uP (0,0)∧σ.env 1=uI vars∧σ.env 4=uP (1,4)∧σ.env 5=uP (1,5)∧σ.env 6=uI y_11.1∧σ.env 7=uI s_13.1∧σ.mem (0,0)=some [cL .shr s_13.2.1,cI s_13.2.2.1,cI s_13.2.2.2.1]∧σ.mem (1,4)=some [.l .own 0 [],.l .own 0 []]∧σ.mem (1,5)=some [cL .own s_13.2.2.2.2.1,cL .own s_13.2.2.2.2.2])∧NoBox [(0,0),(1,4),(1,5)] σ.mem
  obtain ⟨X_16,X_16_⟩:=exV fun (r_69:(List U8) × Int × Int × (List TNode) × (List Int)) (out:Out)=>∃ σ:St,out=.exit 0 σ∧(σ.env 4=uP (1,4)∧σ.env 5=uP (1,5)∧σ.mem (0,0)=some [cL .shr r_69.1,cI r_69.2.1,cI r_69.2.2.1]∧σ.mem (1,4)=some [.l .own 0 [],.l .own 0 []]∧σ.mem (1,5)=some [cL .own r_69.2.2.2.1,cL .own r_69.2.2.2.2])∧NoBox [(0,0),(1,4),(1,5)] σ.mem
  refine loopP ({ hd:=[0,1,4,5,6,7],bx:=[],ex:=[4,5],rt:=[4] }) I_15 X_16 h_70 (by exact rfl) ?_ ?_ ?_
  ·rw [I_15_]
   exact ⟨by simp [zac,zab,hq0,h_10],NoBox.restrict (by intro k hk hb;simp at hk hb;simp [hk,hb,hq0,h_10,hn0 k (by simp [hk,hb])] <;> (intro hx;simp [hx]) <;> (intro hy;simp [hy]))⟩
  ·intro s_13 σ_17 a_14 hI hp
   rw [I_15_] at hI
   obtain ⟨q_19,hn_18⟩:=hI
   try simp [hq0,h_10,q_19]
   rcases zad hp with ⟨h_20,hp⟩|⟨h_20,hp⟩
   ·try simp at h_20
    try simp [hq0,h_10,q_19,h_20]
    rcases zad hp with ⟨h_21,hp⟩|⟨h_21,hp⟩
    ·try simp at h_21
     obtain ⟨y_22,h_23,hp⟩:=zaa hp
     try simp [hq0,h_10,q_19,h_20,h_21]
     refine zaj (0,0) (zft h_23) zgn (by simp [hq0,h_10,q_19,h_20,h_21]) (by simp) (by simp [hq0,h_10,q_19,h_20,h_21]) (.inr (by decide)) ?_
     obtain ⟨y_24,h_25,hp⟩:=zaa hp
     try simp [hq0,h_10,q_19,h_20,h_21]
     refine zaj (0,0) (zft h_25) zgn (by simp [hq0,h_10,q_19,h_20,h_21]) (by simp) (by simp [hq0,h_10,q_19,h_20,h_21]) (.inr (by decide)) ?_
     try simp [hq0,h_10,q_19,h_20,h_21]
     rcases zad hp with ⟨h_26,hp⟩|⟨h_26,hp⟩
     ·try simp at h_26
      try simp [hq0,h_10,q_19,h_20,h_21,h_26]
      have n_27:=hn_18 (1,1080) (by simp)
      obtain ⟨e_29,h_30,hp⟩:=zaa hp
      have c_31:=row_get h_30 1 (by decide) (d:=.sl e_29.reach.length (encL e_29.reach)) rfl
      try simp at c_31
      have b_33:=at_lo h_30
      have b_34:=at_hi h_30
      try simp at b_33 b_34
      have n_28:=hn_18 (1,108641) (by simp)
      try simp [hq0,h_10,q_19,h_20,h_21,h_26,n_27,c_31,b_33,b_34,n_28]
      obtain ⟨e_35,h_36,hp⟩:=zaa hp
      cases Option.some.inj (h_30.symm.trans h_36)
      have b_37:=at_lo h_30
      have b_38:=at_hi h_30
      try simp at b_37 b_38
      have c_39:=zoj h_30 1 (by decide) (.bs (1,108641) e_29.reach.length 1)
      try simp at c_39
      obtain ⟨y_40,h_41,hp⟩:=zaa hp
      try simp [hq0,h_10,q_19,h_20,h_21,h_26,b_37,b_38,c_39]
      refine zaj (0,0) (zft h_41) zgn (by simp [hq0,h_10,q_19,h_20,h_21,h_26]) (by simp) (by simp [hq0,h_10,q_19,h_20,h_21,h_26]) (.inr (by decide)) ?_
      obtain ⟨e_42,h_43,hp⟩:=zaa hp
      have b_44:=at_lo h_43
      have b_45:=at_hi h_43
      try simp at b_44 b_45
      have c_46:=zcy h_43 0 1 [(cI 1)] (by simp) rfl
      try simp at c_46
      have l_47:=zeh h_43 0 (m:=1) (by decide)
      try simp at l_47
      have c_48:=zkt h_30 1 (by decide) (.bs (1,108641) (e_29.reach.set y_40.1.toNat 1).length 1)
      try simp at c_48
      have c_49:=zmg h_30 1 (⟨e_29.vars,e_29.reach.set y_40.1.toNat 1,e_29.shared,e_29.many⟩:TNode) (c:=(cL .own (e_29.reach.set y_40.1.toNat 1))) rfl
      try simp at c_49
      cases hp
      try simp [hq0,h_10,q_19,h_20,h_21,h_26,b_44,b_45,c_46,l_47,c_48,c_49]
      refine zae ?_
      rw [I_15_]
      exact ⟨by simp [zac,zab,hq0,h_10,q_19,h_20,h_21,h_26,b_44,b_45,c_46,l_47,c_48,c_49],NoBox.restrict (by intro k hk hb;simp at hk hb;simp [hk,hb,hq0,h_10,q_19,h_20,h_21,h_26,b_44,b_45,c_46,l_47,c_48,c_49,hn_18 k (by simp [hk,hb])] <;> (intro hx;simp [hx]) <;> (intro hy;simp [hy]))⟩
     ·try simp at h_26
      try simp [hq0,h_10,q_19,h_20,h_21,h_26]
      rcases zad hp with ⟨h_51,hp⟩|⟨h_51,hp⟩
      ·try simp at h_51
       try simp [hq0,h_10,q_19,h_20,h_21,h_26,h_51]
       have n_52:=hn_18 (1,1080) (by simp)
       obtain ⟨e_53,h_54,hp⟩:=zaa hp
       have b_55:=at_lo h_54
       have b_56:=at_hi h_54
       try simp at b_55 b_56
       have c_57:=zcy h_54 2 (⟨e_53.vars,e_53.reach,1,e_53.many⟩:TNode) [(cI 1)] (by simp) rfl
       try simp at c_57
       have l_58:=zeh h_54 2 (m:=1) (by decide)
       try simp at l_58
       cases hp
       try simp [hq0,h_10,q_19,h_20,h_21,h_26,h_51,n_52,b_55,b_56,c_57,l_58]
       refine zae ?_
       rw [I_15_]
       exact ⟨by simp [zac,zab,hq0,h_10,q_19,h_20,h_21,h_26,h_51,n_52,b_55,b_56,c_57,l_58],NoBox.restrict (by intro k hk hb;simp at hk hb;simp [hk,hb,hq0,h_10,q_19,h_20,h_21,h_26,h_51,n_52,b_55,b_56,c_57,l_58,hn_18 k (by simp [hk,hb])] <;> (intro hx;simp [hx]) <;> (intro hy;simp [hy]))⟩
      ·try simp at h_51
       try simp [hq0,h_10,q_19,h_20,h_21,h_26,h_51]
       rcases zad hp with ⟨h_59,hp⟩|⟨h_59,hp⟩
       ·try simp at h_59
        try simp [hq0,h_10,q_19,h_20,h_21,h_26,h_51,h_59]
        have n_60:=hn_18 (1,1081) (by simp)
        obtain ⟨y_61,h_62,hp⟩:=zaa hp
        try simp [hq0,h_10,q_19,h_20,h_21,h_26,h_51,h_59,n_60]
        refine zaj (0,0) (zft h_62) zgn (by simp [hq0,h_10,q_19,h_20,h_21,h_26,h_51,h_59]) (by simp) (by simp [hq0,h_10,q_19,h_20,h_21,h_26,h_51,h_59]) (.inr (by decide)) ?_
        obtain ⟨e_63,h_64,hp⟩:=zaa hp
        have b_65:=at_lo h_64
        have b_66:=at_hi h_64
        try simp at b_65 b_66
        have c_67:=zcy h_64 0 1 [(cI 1)] (by simp) rfl
        try simp at c_67
        have l_68:=zeh h_64 0 (m:=1) (by decide)
        try simp at l_68
        cases hp
        try simp [hq0,h_10,q_19,h_20,h_21,h_26,h_51,h_59,b_65,b_66,c_67,l_68]
        refine zae ?_
        rw [I_15_]
        exact ⟨by simp [zac,zab,hq0,h_10,q_19,h_20,h_21,h_26,h_51,h_59,b_65,b_66,c_67,l_68],NoBox.restrict (by intro k hk hb;simp at hk hb;simp [hk,hb,hq0,h_10,q_19,h_20,h_21,h_26,h_51,h_59,b_65,b_66,c_67,l_68,hn_18 k (by simp [hk,hb])] <;> (intro hx;simp [hx]) <;> (intro hy;simp [hy]))⟩
       ·try simp at h_59
        cases hp
        try simp [hq0,h_10,q_19,h_20,h_21,h_26,h_51,h_59]
        refine zae ?_
        rw [I_15_]
        exact ⟨by simp [zac,zab,hq0,h_10,q_19,h_20,h_21,h_26,h_51,h_59],NoBox.restrict (by intro k hk hb;simp at hk hb;simp [hk,hb,hq0,h_10,q_19,h_20,h_21,h_26,h_51,h_59,hn_18 k (by simp [hk,hb])] <;> (intro hx;simp [hx]) <;> (intro hy;simp [hy]))⟩
    ·try simp at h_21
     cases hp
     try simp [hq0,h_10,q_19,h_20,h_21]
     refine zag ?_
     rw [X_16_]
     exact ⟨_,rfl,by simp [zac,zab,hq0,h_10,q_19,h_20,h_21],NoBox.restrict (by intro k hk hb;simp at hk hb;simp [hk,hb,hq0,h_10,q_19,h_20,h_21,hn_18 k (by simp [hk,hb])] <;> (intro hx;simp [hx]) <;> (intro hy;simp [hy]))⟩
   ·try simp at h_20
    cases hp
    try simp [hq0,h_10,q_19,h_20]
    refine zag ?_
    rw [X_16_]
    exact ⟨_,rfl,by simp [zac,zab,hq0,h_10,q_19,h_20],NoBox.restrict (by intro k hk hb;simp at hk hb;simp [hk,hb,hq0,h_10,q_19,h_20,hn_18 k (by simp [hk,hb])] <;> (intro hx;simp [hx]) <;> (intro hy;simp [hy]))⟩
  ·intro out hX
   rw [X_16_] at hX
   obtain ⟨σ_71,rfl,q_73,hn_72⟩:=hX
   cases hp
   simp [Goal,FnEndD,retR,rsrc,RSrc.val,nodupR,nodup,tupPart,hq0,h_10,q_73]
   rw [QV_]
   exact ⟨by simp [hq0,h_10,q_73],zbz _ _,zca (L':=[(0,0),(1,4),(1,5)]) (by intro k hk;simp at hk;simp [hk,hq0,h_10,q_73,hn_72 k (by simp [hk])] <;> (intro hx;simp [hx]) <;> (intro hy;simp [hy])) (by simp)⟩
 ·try simp at h_10
  obtain ⟨y_74,h_75,hp⟩:=zaa hp
  have c_76:=C43_eq h_75
  simp at c_76
  obtain ⟨y_77,h_78,hp⟩:=zaa hp
  try simp [hq0,h_10,c_76]
  refine zaj (0,0) (zft h_78) zgn (by simp [hq0,h_10]) (by simp) (by simp [hq0,h_10]) (.inr (by decide)) ?_
  try simp [hq0,h_10]
  obtain ⟨r_135,h_136,hp⟩:=zaa hp
  obtain ⟨I_81,I_81_⟩:=exV fun (s_79:Int × (List U8) × Int × Int × (List TNode) × (List Int)) (σ:St)=>(σ.env 0=uP (0,0)∧σ.env 1=uI vars∧σ.env 4=uP (1,4)∧σ.env 5=uP (1,5)∧σ.env 6=uI y_77.1∧σ.env 7=uI s_79.1∧σ.mem (0,0)=some [cL .shr s_79.2.1,cI s_79.2.2.1,cI s_79.2.2.2.1]∧σ.mem (1,4)=some [.l .own 0 [],.l .own 0 []]∧σ.mem (1,5)=some [cL .own s_79.2.2.2.2.1,cL .own s_79.2.2.2.2.2])∧NoBox [(0,0),(1,4),(1,5)] σ.mem
  obtain ⟨X_82,X_82_⟩:=exV fun (r_135:(List U8) × Int × Int × (List TNode) × (List Int)) (out:Out)=>∃ σ:St,out=.exit 0 σ∧(σ.env 4=uP (1,4)∧σ.env 5=uP (1,5)∧σ.mem (0,0)=some [cL .shr r_135.1,cI r_135.2.1,cI r_135.2.2.1]∧σ.mem (1,4)=some [.l .own 0 [],.l .own 0 []]∧σ.mem (1,5)=some [cL .own r_135.2.2.2.1,cL .own r_135.2.2.2.2])∧NoBox [(0,0),(1,4),(1,5)] σ.mem
  refine loopP ({ hd:=[0,1,4,5,6,7],bx:=[],ex:=[4,5],rt:=[4] }) I_81 X_82 h_136 (by exact rfl) ?_ ?_ ?_
  ·rw [I_81_]
   exact ⟨by simp [zac,zab,hq0,h_10],NoBox.restrict (by intro k hk hb;simp at hk hb;simp [hk,hb,hq0,h_10,hn0 k (by simp [hk,hb])] <;> (intro hx;simp [hx]) <;> (intro hy;simp [hy]))⟩
  ·intro s_79 σ_83 a_80 hI hp
   rw [I_81_] at hI
   obtain ⟨q_85,hn_84⟩:=hI
   try simp [hq0,h_10,q_85]
   rcases zad hp with ⟨h_86,hp⟩|⟨h_86,hp⟩
   ·try simp at h_86
    try simp [hq0,h_10,q_85,h_86]
    rcases zad hp with ⟨h_87,hp⟩|⟨h_87,hp⟩
    ·try simp at h_87
     obtain ⟨y_88,h_89,hp⟩:=zaa hp
     try simp [hq0,h_10,q_85,h_86,h_87]
     refine zaj (0,0) (zft h_89) zgn (by simp [hq0,h_10,q_85,h_86,h_87]) (by simp) (by simp [hq0,h_10,q_85,h_86,h_87]) (.inr (by decide)) ?_
     obtain ⟨y_90,h_91,hp⟩:=zaa hp
     try simp [hq0,h_10,q_85,h_86,h_87]
     refine zaj (0,0) (zft h_91) zgn (by simp [hq0,h_10,q_85,h_86,h_87]) (by simp) (by simp [hq0,h_10,q_85,h_86,h_87]) (.inr (by decide)) ?_
     try simp [hq0,h_10,q_85,h_86,h_87]
     rcases zad hp with ⟨h_92,hp⟩|⟨h_92,hp⟩
     ·try simp at h_92
      try simp [hq0,h_10,q_85,h_86,h_87,h_92]
      have n_93:=hn_84 (1,1080) (by simp)
      obtain ⟨e_95,h_96,hp⟩:=zaa hp
      have c_97:=row_get h_96 1 (by decide) (d:=.sl e_95.reach.length (encL e_95.reach)) rfl
      try simp at c_97
      have b_99:=at_lo h_96
      have b_100:=at_hi h_96
      try simp at b_99 b_100
      have n_94:=hn_84 (1,108641) (by simp)
      try simp [hq0,h_10,q_85,h_86,h_87,h_92,n_93,c_97,b_99,b_100,n_94]
      obtain ⟨e_101,h_102,hp⟩:=zaa hp
      cases Option.some.inj (h_96.symm.trans h_102)
      have b_103:=at_lo h_96
      have b_104:=at_hi h_96
      try simp at b_103 b_104
      have c_105:=zoj h_96 1 (by decide) (.bs (1,108641) e_95.reach.length 1)
      try simp at c_105
      obtain ⟨y_106,h_107,hp⟩:=zaa hp
      try simp [hq0,h_10,q_85,h_86,h_87,h_92,b_103,b_104,c_105]
      refine zaj (0,0) (zft h_107) zgn (by simp [hq0,h_10,q_85,h_86,h_87,h_92]) (by simp) (by simp [hq0,h_10,q_85,h_86,h_87,h_92]) (.inr (by decide)) ?_
      obtain ⟨e_108,h_109,hp⟩:=zaa hp
      have b_110:=at_lo h_109
      have b_111:=at_hi h_109
      try simp at b_110 b_111
      have c_112:=zcy h_109 0 1 [(cI 1)] (by simp) rfl
      try simp at c_112
      have l_113:=zeh h_109 0 (m:=1) (by decide)
      try simp at l_113
      have c_114:=zkt h_96 1 (by decide) (.bs (1,108641) (e_95.reach.set y_106.1.toNat 1).length 1)
      try simp at c_114
      have c_115:=zmg h_96 1 (⟨e_95.vars,e_95.reach.set y_106.1.toNat 1,e_95.shared,e_95.many⟩:TNode) (c:=(cL .own (e_95.reach.set y_106.1.toNat 1))) rfl
      try simp at c_115
      cases hp
      try simp [hq0,h_10,q_85,h_86,h_87,h_92,b_110,b_111,c_112,l_113,c_114,c_115]
      refine zae ?_
      rw [I_81_]
      exact ⟨by simp [zac,zab,hq0,h_10,q_85,h_86,h_87,h_92,b_110,b_111,c_112,l_113,c_114,c_115],NoBox.restrict (by intro k hk hb;simp at hk hb;simp [hk,hb,hq0,h_10,q_85,h_86,h_87,h_92,b_110,b_111,c_112,l_113,c_114,c_115,hn_84 k (by simp [hk,hb])] <;> (intro hx;simp [hx]) <;> (intro hy;simp [hy]))⟩
     ·try simp at h_92
      try simp [hq0,h_10,q_85,h_86,h_87,h_92]
      rcases zad hp with ⟨h_117,hp⟩|⟨h_117,hp⟩
      ·try simp at h_117
       try simp [hq0,h_10,q_85,h_86,h_87,h_92,h_117]
       have n_118:=hn_84 (1,1080) (by simp)
       obtain ⟨e_119,h_120,hp⟩:=zaa hp
       have b_121:=at_lo h_120
       have b_122:=at_hi h_120
       try simp at b_121 b_122
       have c_123:=zcy h_120 2 (⟨e_119.vars,e_119.reach,1,e_119.many⟩:TNode) [(cI 1)] (by simp) rfl
       try simp at c_123
       have l_124:=zeh h_120 2 (m:=1) (by decide)
       try simp at l_124
       cases hp
       try simp [hq0,h_10,q_85,h_86,h_87,h_92,h_117,n_118,b_121,b_122,c_123,l_124]
       refine zae ?_
       rw [I_81_]
       exact ⟨by simp [zac,zab,hq0,h_10,q_85,h_86,h_87,h_92,h_117,n_118,b_121,b_122,c_123,l_124],NoBox.restrict (by intro k hk hb;simp at hk hb;simp [hk,hb,hq0,h_10,q_85,h_86,h_87,h_92,h_117,n_118,b_121,b_122,c_123,l_124,hn_84 k (by simp [hk,hb])] <;> (intro hx;simp [hx]) <;> (intro hy;simp [hy]))⟩
      ·try simp at h_117
       try simp [hq0,h_10,q_85,h_86,h_87,h_92,h_117]
       rcases zad hp with ⟨h_125,hp⟩|⟨h_125,hp⟩
       ·try simp at h_125
        try simp [hq0,h_10,q_85,h_86,h_87,h_92,h_117,h_125]
        have n_126:=hn_84 (1,1081) (by simp)
        obtain ⟨y_127,h_128,hp⟩:=zaa hp
        try simp [hq0,h_10,q_85,h_86,h_87,h_92,h_117,h_125,n_126]
        refine zaj (0,0) (zft h_128) zgn (by simp [hq0,h_10,q_85,h_86,h_87,h_92,h_117,h_125]) (by simp) (by simp [hq0,h_10,q_85,h_86,h_87,h_92,h_117,h_125]) (.inr (by decide)) ?_
        obtain ⟨e_129,h_130,hp⟩:=zaa hp
        have b_131:=at_lo h_130
        have b_132:=at_hi h_130
        try simp at b_131 b_132
        have c_133:=zcy h_130 0 1 [(cI 1)] (by simp) rfl
        try simp at c_133
        have l_134:=zeh h_130 0 (m:=1) (by decide)
        try simp at l_134
        cases hp
        try simp [hq0,h_10,q_85,h_86,h_87,h_92,h_117,h_125,b_131,b_132,c_133,l_134]
        refine zae ?_
        rw [I_81_]
        exact ⟨by simp [zac,zab,hq0,h_10,q_85,h_86,h_87,h_92,h_117,h_125,b_131,b_132,c_133,l_134],NoBox.restrict (by intro k hk hb;simp at hk hb;simp [hk,hb,hq0,h_10,q_85,h_86,h_87,h_92,h_117,h_125,b_131,b_132,c_133,l_134,hn_84 k (by simp [hk,hb])] <;> (intro hx;simp [hx]) <;> (intro hy;simp [hy]))⟩
       ·try simp at h_125
        cases hp
        try simp [hq0,h_10,q_85,h_86,h_87,h_92,h_117,h_125]
        refine zae ?_
        rw [I_81_]
        exact ⟨by simp [zac,zab,hq0,h_10,q_85,h_86,h_87,h_92,h_117,h_125],NoBox.restrict (by intro k hk hb;simp at hk hb;simp [hk,hb,hq0,h_10,q_85,h_86,h_87,h_92,h_117,h_125,hn_84 k (by simp [hk,hb])] <;> (intro hx;simp [hx]) <;> (intro hy;simp [hy]))⟩
    ·try simp at h_87
     cases hp
     try simp [hq0,h_10,q_85,h_86,h_87]
     refine zag ?_
     rw [X_82_]
     exact ⟨_,rfl,by simp [zac,zab,hq0,h_10,q_85,h_86,h_87],NoBox.restrict (by intro k hk hb;simp at hk hb;simp [hk,hb,hq0,h_10,q_85,h_86,h_87,hn_84 k (by simp [hk,hb])] <;> (intro hx;simp [hx]) <;> (intro hy;simp [hy]))⟩
   ·try simp at h_86
    cases hp
    try simp [hq0,h_10,q_85,h_86]
    refine zag ?_
    rw [X_82_]
    exact ⟨_,rfl,by simp [zac,zab,hq0,h_10,q_85,h_86],NoBox.restrict (by intro k hk hb;simp at hk hb;simp [hk,hb,hq0,h_10,q_85,h_86,hn_84 k (by simp [hk,hb])] <;> (intro hx;simp [hx]) <;> (intro hy;simp [hy]))⟩
  ·intro out hX
   rw [X_82_] at hX
   obtain ⟨σ_137,rfl,q_139,hn_138⟩:=hX
   cases hp
   simp [Goal,FnEndD,retR,rsrc,RSrc.val,nodupR,nodup,tupPart,hq0,h_10,q_139]
   rw [QV_]
   exact ⟨by simp [hq0,h_10,q_139],zbz _ _,zca (L':=[(0,0),(1,4),(1,5)]) (by intro k hk;simp at hk;simp [hk,hq0,h_10,q_139,hn_138 k (by simp [hk])] <;> (intro hx;simp [hx]) <;> (intro hy;simp [hy])) (by simp)⟩
theorem px18:PX Try.prog 18 C18:=px_of (g:=g18) (zfs [(43,C43),(44,C44)] rfl ⟨pc43,pc44,trivial⟩ [] rfl trivial [] rfl trivial [(19,C19),(42,C42),(45,C45)] rfl ⟨px19,px42,px45,trivial⟩) (ent Try.func18) fun x t y h=>by
 obtain ⟨m,h1,h2,_,h3⟩:=w18 (mem:=upd mem0 (0,0) (some (bxT t))) (Tight.upd (zak _) (by simp) (by simp)) (by simp [upd,bxT]) (zgb _ _) h
 exact ⟨m,h1,h2,h3⟩
end Go.Proofs

