import Derived.Test.YtmmliafoddlgfaaGreatEvA15
set_option linter.unusedSimpArgs false
set_option linter.unusedVariables false
set_option linter.unnecessarySimpa false
noncomputable section
set_option maxHeartbeats 4000000
set_option maxRecDepth 100000
namespace Go.Proofs
open Go.Ev
def C40:List AV→Option AV:=specP (X:=TProgram × (List THeap) × TAlarm × Unit) fun x=>spec_ConfirmAlarm x.1 x.2.1 x.2.2.1
theorem C40_eq {p_ start a_} {y} (h:spec_ConfirmAlarm p_ start a_=some y):C40 [av .shr p_,av .shr start,av .shr a_]=some (Res.res y):=zai (x:=(p_,start,a_,())) h
def g40:Cfg:={ P:=Tryz.prog,take:=[(40,14),(40,24)],keep:=[],gho:=[],ctx:=[(71,C71)] }
@[simp] theorem g40_s:type_of% (cfg_s (g:=g40) rfl):=cfg_s rfl
theorem w40 {p_ start a_} {y} (hp:spec_ConfirmAlarm p_ start a_=some y):∃ m,callo g40 0 40 [av .shr p_,av .shr start,av .shr a_] mem0=some (Res.res y,m):=by
 refine st0 [.cell 6 65,.tmp 7] Tryz.func40 ?_
 unfold spec_ConfirmAlarm at hp
 simp [Tryz.f40]
 rcases zad hp with ⟨h_1,hp⟩|⟨h_1,hp⟩
 ·try simp at h_1
  cases hp
  simp [Goal,FnEnd,retR,rsrc,RSrc.val,nodupR,nodup,tupPart,h_1]
 ·try simp at h_1
  obtain ⟨y_2,h_3,hp⟩:=zab hp
  have c_4:=C71_eq h_3
  simp at c_4
  cases hp
  simp [Goal,FnEnd,retR,rsrc,RSrc.val,nodupR,nodup,tupPart,h_1,c_4]
theorem pc40:PC Tryz.prog 40 C40:=pc_of (g:=g40) (zaj _ g40_s.2.1 ⟨pc71,trivial⟩) (ent Tryz.func40) fun x y h=>w40 h

def C56:List AV→Option AV:=specP (X:=Int × Int × Int × Unit) fun x=>impl_within x.1 x.2.1 x.2.2.1
theorem C56_eq {n_ low high} {y} (h:impl_within n_ low high=some y):C56 [av .shr n_,av .shr low,av .shr high]=some (Res.res y):=zai (x:=(n_,low,high,())) h
def g56:Cfg:={ P:=Tryz.prog,take:=[],keep:=[],gho:=[],ctx:=[] }
@[simp] theorem g56_s:type_of% (cfg_s (g:=g56) rfl):=cfg_s rfl
theorem w56 {n_ low high} {y} (hp:impl_within n_ low high=some y):∃ m,callo g56 0 56 [av .shr n_,av .shr low,av .shr high] mem0=some (Res.res y,m):=by
 refine st0 [.tmp 6] Tryz.func56 ?_
 unfold impl_within at hp
 simp [Tryz.f56]
 rcases zad hp with ⟨h_1,hp⟩|⟨h_1,hp⟩
 ·try simp at h_1
  cases hp
  simp [Goal,FnEnd,h_1]
 ·try simp at h_1
  cases hp
  simp [Goal,FnEnd,h_1]
theorem pc56:PC Tryz.prog 56 C56:=pc_of (g:=g56) (zaj [] rfl trivial) (ent Tryz.func56) fun x y h=>w56 h

def C132:List AV→Option AV:=specP (X:=ByteArray × Unit) fun x=>impl_IsName x.1
theorem C132_eq {s} {y} (h:impl_IsName s=some y):C132 [av .shr s]=some (Res.res y):=zai (x:=(s,())) h
def g132:Cfg:={ P:=Tryz.prog,take:=[],keep:=[((132,2),{ hd:=[0,5,6],bx:=[],ex:=[0],rt:=[2] })],gho:=[],ctx:=[(56,C56)] }
@[simp] theorem g132_s:type_of% (cfg_s (g:=g132) rfl):=cfg_s rfl
theorem w132 {s} {y} (hp:impl_IsName s=some y):∃ m,callo g132 0 132 [av .shr s] mem0=some (Res.res y,m):=by
 refine st0 [.tmp 2] Tryz.func132 ?_
 unfold impl_IsName at hp
 simp [Tryz.f132]
 obtain ⟨r_15,h_16,hp⟩:=zab hp
 obtain ⟨I_3,I_3_⟩:=exV fun (s_1:Int) (σ:St)=>(σ.env 0=.one (.s (.string s))∧σ.env 5=uI (s.size:Int)∧σ.env 6=uI s_1)∧σ.mem=mem0
 obtain ⟨X_4,X_4_⟩:=exV fun (r_15:(Unit) ⊕ (Unit)) (out:Out)=>Sum.elim (fun r_15=>∃ σ:St,out=.ret σ∧σ.env 2=uB false∧σ.mem=mem0) (fun r_15=>∃ σ:St,out=.exit 0 σ∧σ.env 0=.one (.s (.string s))∧σ.mem=mem0) r_15
 refine loopP ({ hd:=[0,5,6],bx:=[],ex:=[0],rt:=[2] }) I_3 X_4 h_16 (by exact rfl) ?_ ?_ ?_
 ·rw [I_3_]
  exact ⟨by simp [zac,zaa],by simp [zaa]⟩
 ·intro s_1 σ_5 a_2 hI hp
  rw [I_3_] at hI
  obtain ⟨q_7,q_6⟩:=hI
  try simp [q_7,q_6]
  rcases zad hp with ⟨h_8,hp⟩|⟨h_8,hp⟩
  ·try simp at h_8
   obtain ⟨e_9,h_10,hp⟩:=zab hp
   have c_11:=idx_str Tryz.underlying9 h_10
   try simp [q_7,q_6,h_8,c_11]
   rcases zad hp with ⟨h_12,hp⟩|⟨h_12,hp⟩
   ·try simp at h_12
    cases hp
    try simp [q_7,q_6,h_8,h_12]
    refine zao ?_
    rw [X_4_]
    exact ⟨_,rfl,by simp [zac,zaa,q_7,q_6,h_8,h_12],by simp [zaa,q_7,q_6,h_8,h_12]⟩
   ·try simp at h_12
    obtain ⟨_,h_13,hp⟩:=zab hp
    cases Option.some.inj (h_10.symm.trans h_13)
    try simp [q_7,q_6,h_8,h_12,c_11]
    rcases zad hp with ⟨h_14,hp⟩|⟨h_14,hp⟩
    ·try simp at h_14
     cases hp
     try simp [q_7,q_6,h_8,h_12,h_14]
     refine zao ?_
     rw [X_4_]
     exact ⟨_,rfl,by simp [zac,zaa,q_7,q_6,h_8,h_12,h_14],by simp [zaa,q_7,q_6,h_8,h_12,h_14]⟩
    ·try simp at h_14
     cases hp
     try simp [q_7,q_6,h_8,h_12,h_14]
     refine zah ?_
     rw [I_3_]
     exact ⟨by simp [zac,zaa,q_7,q_6,h_8,h_12,h_14],by simp [zaa,q_7,q_6,h_8,h_12,h_14]⟩
  ·try simp at h_8
   cases hp
   try simp [q_7,q_6,h_8]
   refine zal ?_
   rw [X_4_]
   exact ⟨_,rfl,by simp [zac,zaa,q_7,q_6,h_8],by simp [zaa,q_7,q_6,h_8]⟩
 ·intro out hX
  rw [X_4_] at hX
  rcases r_15 with r_15 | r_15
  ·simp only [Sum.elim_inl,Sum.elim_inr] at hX hp
   obtain ⟨σ_17,rfl,q_19,q_18⟩:=hX
   cases hp
   simp [Goal,FnEnd,q_19,q_18]
  ·simp only [Sum.elim_inl,Sum.elim_inr] at hX hp
   obtain ⟨σ_20,rfl,q_22,q_21⟩:=hX
   obtain ⟨y_23,h_24,hp⟩:=zab hp
   have c_25:=C56_eq h_24
   simp at c_25
   cases hp
   simp [Goal,FnEnd,q_22,q_21,c_25]
theorem pc132:PC Tryz.prog 132 C132:=pc_of (g:=g132) (zaj _ g132_s.2.1 ⟨pc56,trivial⟩) (ent Tryz.func132) fun x y h=>w132 h

def C141:List AV→Option AV:=specP (X:=(List ByteArray) × ByteArray × Unit) fun x=>slices_Index_string x.1 x.2.1
theorem C141_eq {s v} {y} (h:slices_Index_string s v=some y):C141 [av .shr s,av .shr v]=some (Res.res y):=zai (x:=(s,v,())) h
def g141:Cfg:={ P:=Tryz.prog,take:=[],keep:=[((141,2),{ hd:=[0,1,7,8],bx:=[],ex:=[],rt:=[4] })],gho:=[],ctx:=[] }
@[simp] theorem g141_s:type_of% (cfg_s (g:=g141) rfl):=cfg_s rfl
theorem w141 {s v} {y} (hp:slices_Index_string s v=some y):∃ m,callo g141 0 141 [av .shr s,av .shr v] mem0=some (Res.res y,m):=by
 refine st0 [.tmp 4] Tryz.func141 ?_
 unfold slices_Index_string at hp
 simp [Tryz.f141]
 obtain ⟨r_15,h_16,hp⟩:=zab hp
 obtain ⟨I_3,I_3_⟩:=exV fun (s_1:Int) (σ:St)=>(σ.env 0=uL .shr s∧σ.env 1=.one (.s (.string v))∧σ.env 7=uI (s.length:Int)∧σ.env 8=uI s_1)∧σ.mem=mem0
 obtain ⟨X_4,X_4_⟩:=exV fun (r_15:(Int) ⊕ (Unit)) (out:Out)=>Sum.elim (fun r_15=>∃ σ:St,out=.ret σ∧σ.env 4=uI r_15∧σ.mem=mem0) (fun r_15=>∃ σ:St,out=.exit 0 σ∧σ.mem=mem0) r_15
 refine loopP ({ hd:=[0,1,7,8],bx:=[],ex:=[],rt:=[4] }) I_3 X_4 h_16 (by exact rfl) ?_ ?_ ?_
 ·rw [I_3_]
  exact ⟨by simp [zac,zaa],by simp [zaa]⟩
 ·intro s_1 σ_5 a_2 hI hp
  rw [I_3_] at hI
  obtain ⟨q_7,q_6⟩:=hI
  try simp [q_7,q_6]
  rcases zad hp with ⟨h_8,hp⟩|⟨h_8,hp⟩
  ·try simp at h_8
   obtain ⟨e_9,h_10,hp⟩:=zab hp
   have b_11:=at_lo h_10
   have b_12:=at_hi h_10
   try simp at b_11 b_12
   have c_13:=seg_at' h_10 0 1 (by decide) (ds:=[.sc (.string e_9)]) rfl
   try simp at c_13
   try simp [q_7,q_6,h_8,b_11,b_12,c_13]
   rcases zad hp with ⟨h_14,hp⟩|⟨h_14,hp⟩
   ·try simp at h_14
    cases hp
    try simp [q_7,q_6,h_8,h_14]
    refine zao ?_
    rw [X_4_]
    exact ⟨_,rfl,by simp [zac,zaa,q_7,q_6,h_8,h_14],by simp [zaa,q_7,q_6,h_8,h_14]⟩
   ·try simp at h_14
    cases hp
    try simp [q_7,q_6,h_8,h_14]
    refine zah ?_
    rw [I_3_]
    exact ⟨by simp [zac,zaa,q_7,q_6,h_8,h_14],by simp [zaa,q_7,q_6,h_8,h_14]⟩
  ·try simp at h_8
   cases hp
   try simp [q_7,q_6,h_8]
   refine zal ?_
   rw [X_4_]
   exact ⟨_,rfl,by simp [zaa,q_7,q_6,h_8]⟩
 ·intro out hX
  rw [X_4_] at hX
  rcases r_15 with r_15 | r_15
  ·simp only [Sum.elim_inl,Sum.elim_inr] at hX hp
   obtain ⟨σ_17,rfl,q_19,q_18⟩:=hX
   cases hp
   simp [Goal,FnEnd,q_19,q_18]
  ·simp only [Sum.elim_inl,Sum.elim_inr] at hX hp
   obtain ⟨σ_20,rfl,q_21⟩:=hX
   cases hp
   simp [Goal,FnEnd,q_21]
theorem pc141:PC Tryz.prog 141 C141:=pc_of (g:=g141) (zaj [] rfl trivial) (ent Tryz.func141) fun x y h=>w141 h

def C98:List AV→Option AV:=specP (X:=(List ByteArray) × ByteArray × Unit) fun x=>impl_IndexOf x.1 x.2.1
theorem C98_eq {list s} {y} (h:impl_IndexOf list s=some y):C98 [av .shr list,av .shr s]=some (Res.res y):=zai (x:=(list,s,())) h
def g98:Cfg:={ P:=Tryz.prog,take:=[],keep:=[],gho:=[],ctx:=[(141,C141)] }
@[simp] theorem g98_s:type_of% (cfg_s (g:=g98) rfl):=cfg_s rfl
theorem w98 {list s} {y} (hp:impl_IndexOf list s=some y):∃ m,callo g98 0 98 [av .shr list,av .shr s] mem0=some (Res.res y,m):=by
 refine st0 [.tmp 4] Tryz.func98 ?_
 unfold impl_IndexOf at hp
 obtain ⟨y_1,h_2,hp⟩:=zab hp
 have c_3:=C141_eq h_2
 simp at c_3
 cases hp
 simp [Tryz.f98,Goal,FnEnd,c_3]
theorem pc98:PC Tryz.prog 98 C98:=pc_of (g:=g98) (zaj _ g98_s.2.1 ⟨pc141,trivial⟩) (ent Tryz.func98) fun x y h=>w98 h

def C90:List AV→Option AV:=specP (X:=(List ByteArray) × Unit) fun x=>impl_AreVars x.1
theorem C90_eq {list} {y} (h:impl_AreVars list=some y):C90 [av .shr list]=some (Res.res y):=zai (x:=(list,())) h
def g90:Cfg:={ P:=Tryz.prog,take:=[],keep:=[((90,2),{ hd:=[0,5,6,7],bx:=[],ex:=[0],rt:=[2] })],gho:=[],ctx:=[(56,C56),(98,C98),(132,C132)] }
@[simp] theorem g90_s:type_of% (cfg_s (g:=g90) rfl):=cfg_s rfl
theorem w90 {list} {y} (hp:impl_AreVars list=some y):∃ m,callo g90 0 90 [av .shr list] mem0=some (Res.res y,m):=by
 refine st0 [.tmp 2] Tryz.func90 ?_
 unfold impl_AreVars at hp
 simp [Tryz.f90]
 obtain ⟨r_22,h_23,hp⟩:=zab hp
 obtain ⟨I_3,I_3_⟩:=exV fun (s_1:Int) (σ:St)=>(σ.env 0=uL .shr list∧σ.env 5=uL .shr list∧σ.env 6=uI (list.length:Int)∧σ.env 7=uI s_1)∧σ.mem=mem0
 obtain ⟨X_4,X_4_⟩:=exV fun (r_22:(Unit) ⊕ (Unit)) (out:Out)=>Sum.elim (fun r_22=>∃ σ:St,out=.ret σ∧σ.env 2=uB false∧σ.mem=mem0) (fun r_22=>∃ σ:St,out=.exit 0 σ∧σ.env 0=uL .shr list∧σ.mem=mem0) r_22
 refine loopP ({ hd:=[0,5,6,7],bx:=[],ex:=[0],rt:=[2] }) I_3 X_4 h_23 (by exact rfl) ?_ ?_ ?_
 ·rw [I_3_]
  exact ⟨by simp [zac,zaa],by simp [zaa]⟩
 ·intro s_1 σ_5 a_2 hI hp
  rw [I_3_] at hI
  obtain ⟨q_7,q_6⟩:=hI
  try simp [q_7,q_6]
  rcases zad hp with ⟨h_8,hp⟩|⟨h_8,hp⟩
  ·try simp at h_8
   obtain ⟨e_9,h_10,hp⟩:=zab hp
   have b_11:=at_lo h_10
   have b_12:=at_hi h_10
   try simp at b_11 b_12
   have c_13:=seg_at' h_10 0 1 (by decide) (ds:=[.sc (.string e_9)]) rfl
   try simp at c_13
   obtain ⟨y_14,h_15,hp⟩:=zab hp
   have c_16:=C132_eq h_15
   simp at c_16
   try simp [q_7,q_6,h_8,b_11,b_12,c_13,c_16]
   rcases zad hp with ⟨h_17,hp⟩|⟨h_17,hp⟩
   ·try simp at h_17
    obtain ⟨y_18,h_19,hp⟩:=zab hp
    have c_20:=C98_eq h_19
    simp at c_20
    try simp [q_7,q_6,h_8,h_17,c_20]
    rcases zad hp with ⟨h_21,hp⟩|⟨h_21,hp⟩
    ·try simp at h_21
     cases hp
     try simp [q_7,q_6,h_8,h_17,h_21]
     refine zao ?_
     rw [X_4_]
     exact ⟨_,rfl,by simp [zac,zaa,q_7,q_6,h_8,h_17,h_21],by simp [zaa,q_7,q_6,h_8,h_17,h_21]⟩
    ·try simp at h_21
     cases hp
     try simp [q_7,q_6,h_8,h_17,h_21]
     refine zah ?_
     rw [I_3_]
     exact ⟨by simp [zac,zaa,q_7,q_6,h_8,h_17,h_21],by simp [zaa,q_7,q_6,h_8,h_17,h_21]⟩
   ·try simp at h_17
    cases hp
    try simp [q_7,q_6,h_8,h_17]
    refine zao ?_
    rw [X_4_]
    exact ⟨_,rfl,by simp [zac,zaa,q_7,q_6,h_8,h_17],by simp [zaa,q_7,q_6,h_8,h_17]⟩
  ·try simp at h_8
   cases hp
   try simp [q_7,q_6,h_8]
   refine zal ?_
   rw [X_4_]
   exact ⟨_,rfl,by simp [zac,zaa,q_7,q_6,h_8],by simp [zaa,q_7,q_6,h_8]⟩
 ·intro out hX
  rw [X_4_] at hX
  rcases r_22 with r_22 | r_22
  ·simp only [Sum.elim_inl,Sum.elim_inr] at hX hp
   obtain ⟨σ_24,rfl,q_26,q_25⟩:=hX
   cases hp
   simp [Goal,FnEnd,q_26,q_25]
  ·simp only [Sum.elim_inl,Sum.elim_inr] at hX hp
   obtain ⟨σ_27,rfl,q_29,q_28⟩:=hX
   obtain ⟨y_30,h_31,hp⟩:=zab hp
   have c_32:=C56_eq h_31
   simp at c_32
   cases hp
   simp [Goal,FnEnd,q_29,q_28,c_32]
theorem pc90:PC Tryz.prog 90 C90:=pc_of (g:=g90) (zaj _ g90_s.2.1 ⟨pc56,pc98,pc132,trivial⟩) (ent Tryz.func90) fun x y h=>w90 h

def C136:List AV→Option AV:=specP (X:=(List ByteArray) × ByteArray × Unit) fun x=>slices_Contains_string x.1 x.2.1
theorem C136_eq {s v} {y} (h:slices_Contains_string s v=some y):C136 [av .shr s,av .shr v]=some (Res.res y):=zai (x:=(s,v,())) h
def g136:Cfg:={ P:=Tryz.prog,take:=[],keep:=[],gho:=[],ctx:=[(141,C141)] }
@[simp] theorem g136_s:type_of% (cfg_s (g:=g136) rfl):=cfg_s rfl
theorem w136 {s v} {y} (hp:slices_Contains_string s v=some y):∃ m,callo g136 0 136 [av .shr s,av .shr v] mem0=some (Res.res y,m):=by
 refine st0 [.tmp 4] Tryz.func136 ?_
 unfold slices_Contains_string at hp
 obtain ⟨y_1,h_2,hp⟩:=zab hp
 have c_3:=C141_eq h_2
 simp at c_3
 cases hp
 simp [Tryz.f136,Goal,FnEnd,c_3]
theorem pc136:PC Tryz.prog 136 C136:=pc_of (g:=g136) (zaj _ g136_s.2.1 ⟨pc141,trivial⟩) (ent Tryz.func136) fun x y h=>w136 h

def C153:List AV→Option AV:=specP (X:=Int × Unit) fun x=>impl_NamesOf x.1
theorem C153_eq {kind} {y} (h:impl_NamesOf kind=some y):C153 [av .shr kind]=some (Res.res y):=zai (x:=(kind,())) h
def g153:Cfg:={ P:=Tryz.prog,take:=[],keep:=[],gho:=[],ctx:=[(56,C56)] }
@[simp] theorem g153_s:type_of% (cfg_s (g:=g153) rfl):=cfg_s rfl
theorem w153 {kind} {y} (hp:impl_NamesOf kind=some y):∃ m,callo g153 0 153 [av .shr kind] mem0=some (Res.res y,m):=by
 refine st0 [.tmp 2] Tryz.func153 ?_
 unfold impl_NamesOf at hp
 obtain ⟨y_1,h_2,hp⟩:=zab hp
 have c_3:=C56_eq h_2
 simp at c_3
 simp [Tryz.f153,c_3]
 rcases zad hp with ⟨h_4,hp⟩|⟨h_4,hp⟩
 ·try simp at h_4
  obtain ⟨e_5,h_6,hp⟩:=zab hp
  have b_7:=at_lo h_6
  have b_8:=at_hi h_6
  try simp at b_7 b_8
  have c_9:=seg_at' h_6 0 1 (by decide) (ds:=[.sc (.int .i64 e_5)]) rfl
  try simp at c_9
  cases hp
  simp [Goal,FnEnd,h_4,b_7,b_8,c_9]
 ·try simp at h_4
  cases hp
  simp [Goal,FnEnd,h_4]
theorem pc153:PC Tryz.prog 153 C153:=pc_of (g:=g153) (zaj _ g153_s.2.1 ⟨pc56,trivial⟩) (ent Tryz.func153) fun x y h=>w153 h

abbrev G134 (g:Cfg):Prop:=Has Tryz.prog g 134 Tryz.f134 [] [(3,{ hd:=[1,5,15,16,17],bx:=[],ex:=[5],rt:=[4] })] [(153,C153)] []
theorem wI134 {g:Cfg} (G:G134 g) {d:Nat} {mem:Mem} (hT:Tight d mem)  {s:TStmt} {accept:(ByteArray→Option (Bool))} {fk_accept:Nat} {caps_accept:List (Key × Nat)} (hl_accept:∀ c∈caps_accept,c.1.1≤d) (hc_accept:Clo g d mem fk_accept caps_accept fun x:ByteArray × Unit=>accept x.1) {y} (hp:impl_Stmt_hasNames s accept=some y):callo g d 134 [av .shr s,.one (.fn fk_accept caps_accept)] mem=some (Res.res y,mem):=by
 have gP:=G.P;have gt:=G.tk;have gr:=G.ro;have gg:=G.gh
 have k_3:=G.kp (3,{ hd:=[1,5,15,16,17],bx:=[],ex:=[5],rt:=[4] }) (by simp)
 have c_153:=G.cs (153,C153) (by simp)
 have hT2:memKill (fun k=>decide (d < k.1)) mem=mem:=hT
 have hm0:∀ t,mem (d+1,t)=none:=fun t=>hT.none (by simp)
 refine start_in (Tryz.f134.body.getD .skip) [.tmp 4] G Tryz.func134 (by kernel_rfl) (by simp [Tryz.ntmps134]) rfl ?_
 unfold impl_Stmt_hasNames at hp
 obtain ⟨y_1,h_2,hp⟩:=zab hp
 have c_3:=C153_eq h_2
 simp at c_3
 simp [Tryz.f134,gP,gt,gr,gg,hm0,c_153,c_3]
 obtain ⟨r_28,h_29,hp⟩:=zab hp
 obtain ⟨I_6,I_6_⟩:=exV fun (s_4:Int) (σ:St)=>(σ.env 5=uI y_1∧σ.env 15=uL .own [s.a,s.b]∧σ.env 16=uI ([s.a,s.b].length:Int)∧σ.env 17=uI s_4∧σ.mem (d+1,2)=some [cI s.kind,.s (.string s.a),.s (.string s.b)])∧σ.env 1=.one (.fn fk_accept caps_accept)∧Tight (d+1) σ.mem∧Agree d mem σ.mem∧NoBoxD d [(d+1,2)] σ.mem
 obtain ⟨X_7,X_7_⟩:=exV fun (r_28:(Unit) ⊕ (Unit)) (out:Out)=>Sum.elim (fun r_28=>∃ σ:St,out=.ret σ∧(σ.env 4=uB false∧σ.mem (d+1,2)=some [cI s.kind,.s (.string s.a),.s (.string s.b)])∧Tight (d+1) σ.mem∧Agree d mem σ.mem∧NoBoxD d [(d+1,2)] σ.mem) (fun r_28=>∃ σ:St,out=.exit 0 σ∧(σ.env 5=uI y_1∧σ.mem (d+1,2)=some [cI s.kind,.s (.string s.a),.s (.string s.b)])∧Tight (d+1) σ.mem∧Agree d mem σ.mem∧NoBoxD d [(d+1,2)] σ.mem) r_28
 refine loopP ({ hd:=[1,5,15,16,17],bx:=[],ex:=[5],rt:=[4] }) I_6 X_7 h_29 (by exact k_3) ?_ ?_ ?_
 ·rw [I_6_]
  exact ⟨by simp [zac,zaa,gP,gt,gr,gg,hm0,c_153],by simp [zac,gP,gt,gr,gg,hm0,c_153] <;> first | (intro x x1 x2 hx;have h0:=hl_accept _ hx;simp at h0;omega) | (intro x hx;have h0:=hl_accept _ hx;simp at h0;omega),(by repeat (first | exact zag _ | exact hT.up | exact hT | refine Tight.restrict ?_ | refine Tight.upd ?_ (by simp) (by simp) | refine Tight.killB ?_ | refine zak ?_)),(by repeat (first | exact fun k hk=>rfl | refine Agree.restrict hT ?_ | refine Agree.upd ?_ (by simp))),NoBoxD.restrict (by intro k hd hk hb;simp at hk hb;simp [hk,hb,gP,gt,gr,gg,hm0,c_153,hT.none hd])⟩
 ·intro s_4 σ_8 a_5 hI hp
  rw [I_6_] at hI
  obtain ⟨q_13,q_9,ht_10,ha_11,hn_12⟩:=hI
  try simp [gP,gt,gr,gg,hm0,c_153,q_13,q_9]
  rcases zad hp with ⟨h_14,hp⟩|⟨h_14,hp⟩
  ·try simp at h_14
   obtain ⟨e_15,h_16,hp⟩:=zab hp
   have b_17:=at_lo h_16
   have b_18:=at_hi h_16
   try simp at b_17 b_18
   have c_19:=seg_at' h_16 0 1 (by decide) (ds:=[.sc (.string e_15)]) rfl
   try simp at c_19
   try simp [gP,gt,gr,gg,hm0,c_153,q_13,q_9,h_14,b_17,b_18,c_19]
   rcases zad hp with ⟨h_20,hp⟩|⟨h_20,hp⟩
   ·try simp at h_20
    obtain ⟨y_21,h_22,hp⟩:=zab hp
    try simp [gP,gt,gr,gg,hm0,c_153,q_13,q_9,h_14,h_20]
    refine goal_call ([av .shr e_15] ++ capsAV caps_accept) (Res.res y_21) (by simp [capsAV,gP,gt,gr,gg,hm0,c_153,q_13,q_9,h_14,h_20]) (hc_accept _ _ _ (e_15,()) _ (Nat.le_succ d) (by repeat (first | exact ha_11 | exact fun k hk=>rfl | refine Agree.upd ?_ (by simp))) (by repeat (first | exact ht_10 | exact zag _ | exact hT.up | exact hT | (simp only [q_13,q_9];done) | refine Tight.upd ?_ (by simp) (by simp) | refine Tight.killB ?_ | refine zak ?_)) ⟨_,_,(.inl rfl),rfl,rfl⟩ h_22) ?_
    try simp [gP,gt,gr,gg,hm0,c_153,q_13,q_9,h_14,h_20]
    rcases zad hp with ⟨h_23,hp⟩|⟨h_23,hp⟩
    ·try simp at h_23
     try simp [gP,gt,gr,gg,hm0,c_153,q_13,q_9,h_14,h_20,h_23]
     rcases zad hp with ⟨h_24,hp⟩|⟨h_24,hp⟩
     ·try simp at h_24
      try simp [gP,gt,gr,gg,hm0,c_153,q_13,q_9,h_14,h_20,h_23,h_24]
      rcases zad hp with ⟨h_25,hp⟩|⟨h_25,hp⟩
      ·try simp at h_25
       cases hp
       try simp [gP,gt,gr,gg,hm0,c_153,q_13,q_9,h_14,h_20,h_23,h_24,h_25]
       refine zao ?_
       rw [X_7_]
       exact ⟨_,rfl,by simp [zac,zaa,gP,gt,gr,gg,hm0,c_153,q_13,q_9,h_14,h_20,h_23,h_24,h_25],(by repeat (first | exact ht_10 | exact zag _ | exact hT.up | exact hT | refine Tight.restrict ?_ | refine Tight.upd ?_ (by simp) (by simp) | refine Tight.killB ?_ | refine zak ?_)),(by repeat (first | exact ha_11 | exact fun k hk=>rfl | refine Agree.restrict hT ?_ | refine Agree.upd ?_ (by simp))),NoBoxD.restrict (by intro k hd hk hb;simp at hk hb;simp [hk,hb,gP,gt,gr,gg,hm0,c_153,q_13,q_9,h_14,h_20,h_23,h_24,h_25,hn_12 k hd (by simp [hk,hb])])⟩
      ·try simp at h_25
       cases hp
       try simp [gP,gt,gr,gg,hm0,c_153,q_13,q_9,h_14,h_20,h_23,h_24,h_25]
       refine zah ?_
       rw [I_6_]
       exact ⟨by simp [zac,zaa,gP,gt,gr,gg,hm0,c_153,q_13,q_9,h_14,h_20,h_23,h_24,h_25],by simp [zac,gP,gt,gr,gg,hm0,c_153,q_13,q_9,h_14,h_20,h_23,h_24,h_25] <;> first | (intro x x1 x2 hx;have h0:=hl_accept _ hx;simp at h0;omega) | (intro x hx;have h0:=hl_accept _ hx;simp at h0;omega),(by repeat (first | exact ht_10 | exact zag _ | exact hT.up | exact hT | refine Tight.restrict ?_ | refine Tight.upd ?_ (by simp) (by simp) | refine Tight.killB ?_ | refine zak ?_)),(by repeat (first | exact ha_11 | exact fun k hk=>rfl | refine Agree.restrict hT ?_ | refine Agree.upd ?_ (by simp))),NoBoxD.restrict (by intro k hd hk hb;simp at hk hb;simp [hk,hb,gP,gt,gr,gg,hm0,c_153,q_13,q_9,h_14,h_20,h_23,h_24,h_25,hn_12 k hd (by simp [hk,hb])])⟩
     ·try simp at h_24
      cases hp
      try simp [gP,gt,gr,gg,hm0,c_153,q_13,q_9,h_14,h_20,h_23,h_24]
      refine zah ?_
      rw [I_6_]
      exact ⟨by simp [zac,zaa,gP,gt,gr,gg,hm0,c_153,q_13,q_9,h_14,h_20,h_23,h_24],by simp [zac,gP,gt,gr,gg,hm0,c_153,q_13,q_9,h_14,h_20,h_23,h_24] <;> first | (intro x x1 x2 hx;have h0:=hl_accept _ hx;simp at h0;omega) | (intro x hx;have h0:=hl_accept _ hx;simp at h0;omega),(by repeat (first | exact ht_10 | exact zag _ | exact hT.up | exact hT | refine Tight.restrict ?_ | refine Tight.upd ?_ (by simp) (by simp) | refine Tight.killB ?_ | refine zak ?_)),(by repeat (first | exact ha_11 | exact fun k hk=>rfl | refine Agree.restrict hT ?_ | refine Agree.upd ?_ (by simp))),NoBoxD.restrict (by intro k hd hk hb;simp at hk hb;simp [hk,hb,gP,gt,gr,gg,hm0,c_153,q_13,q_9,h_14,h_20,h_23,h_24,hn_12 k hd (by simp [hk,hb])])⟩
    ·try simp at h_23
     cases hp
     try simp [gP,gt,gr,gg,hm0,c_153,q_13,q_9,h_14,h_20,h_23]
     refine zao ?_
     rw [X_7_]
     exact ⟨_,rfl,by simp [zac,zaa,gP,gt,gr,gg,hm0,c_153,q_13,q_9,h_14,h_20,h_23],(by repeat (first | exact ht_10 | exact zag _ | exact hT.up | exact hT | refine Tight.restrict ?_ | refine Tight.upd ?_ (by simp) (by simp) | refine Tight.killB ?_ | refine zak ?_)),(by repeat (first | exact ha_11 | exact fun k hk=>rfl | refine Agree.restrict hT ?_ | refine Agree.upd ?_ (by simp))),NoBoxD.restrict (by intro k hd hk hb;simp at hk hb;simp [hk,hb,gP,gt,gr,gg,hm0,c_153,q_13,q_9,h_14,h_20,h_23,hn_12 k hd (by simp [hk,hb])])⟩
   ·try simp at h_20
    try simp [gP,gt,gr,gg,hm0,c_153,q_13,q_9,h_14,h_20]
    rcases zad hp with ⟨h_26,hp⟩|⟨h_26,hp⟩
    ·try simp at h_26
     try simp [gP,gt,gr,gg,hm0,c_153,q_13,q_9,h_14,h_20,h_26]
     rcases zad hp with ⟨h_27,hp⟩|⟨h_27,hp⟩
     ·try simp at h_27
      cases hp
      try simp [gP,gt,gr,gg,hm0,c_153,q_13,q_9,h_14,h_20,h_26,h_27]
      refine zao ?_
      rw [X_7_]
      exact ⟨_,rfl,by simp [zac,zaa,gP,gt,gr,gg,hm0,c_153,q_13,q_9,h_14,h_20,h_26,h_27],(by repeat (first | exact ht_10 | exact zag _ | exact hT.up | exact hT | refine Tight.restrict ?_ | refine Tight.upd ?_ (by simp) (by simp) | refine Tight.killB ?_ | refine zak ?_)),(by repeat (first | exact ha_11 | exact fun k hk=>rfl | refine Agree.restrict hT ?_ | refine Agree.upd ?_ (by simp))),NoBoxD.restrict (by intro k hd hk hb;simp at hk hb;simp [hk,hb,gP,gt,gr,gg,hm0,c_153,q_13,q_9,h_14,h_20,h_26,h_27,hn_12 k hd (by simp [hk,hb])])⟩
     ·try simp at h_27
      cases hp
      try simp [gP,gt,gr,gg,hm0,c_153,q_13,q_9,h_14,h_20,h_26,h_27]
      refine zah ?_
      rw [I_6_]
      exact ⟨by simp [zac,zaa,gP,gt,gr,gg,hm0,c_153,q_13,q_9,h_14,h_20,h_26,h_27],by simp [zac,gP,gt,gr,gg,hm0,c_153,q_13,q_9,h_14,h_20,h_26,h_27] <;> first | (intro x x1 x2 hx;have h0:=hl_accept _ hx;simp at h0;omega) | (intro x hx;have h0:=hl_accept _ hx;simp at h0;omega),(by repeat (first | exact ht_10 | exact zag _ | exact hT.up | exact hT | refine Tight.restrict ?_ | refine Tight.upd ?_ (by simp) (by simp) | refine Tight.killB ?_ | refine zak ?_)),(by repeat (first | exact ha_11 | exact fun k hk=>rfl | refine Agree.restrict hT ?_ | refine Agree.upd ?_ (by simp))),NoBoxD.restrict (by intro k hd hk hb;simp at hk hb;simp [hk,hb,gP,gt,gr,gg,hm0,c_153,q_13,q_9,h_14,h_20,h_26,h_27,hn_12 k hd (by simp [hk,hb])])⟩
    ·try simp at h_26
     cases hp
     try simp [gP,gt,gr,gg,hm0,c_153,q_13,q_9,h_14,h_20,h_26]
     refine zah ?_
     rw [I_6_]
     exact ⟨by simp [zac,zaa,gP,gt,gr,gg,hm0,c_153,q_13,q_9,h_14,h_20,h_26],by simp [zac,gP,gt,gr,gg,hm0,c_153,q_13,q_9,h_14,h_20,h_26] <;> first | (intro x x1 x2 hx;have h0:=hl_accept _ hx;simp at h0;omega) | (intro x hx;have h0:=hl_accept _ hx;simp at h0;omega),(by repeat (first | exact ht_10 | exact zag _ | exact hT.up | exact hT | refine Tight.restrict ?_ | refine Tight.upd ?_ (by simp) (by simp) | refine Tight.killB ?_ | refine zak ?_)),(by repeat (first | exact ha_11 | exact fun k hk=>rfl | refine Agree.restrict hT ?_ | refine Agree.upd ?_ (by simp))),NoBoxD.restrict (by intro k hd hk hb;simp at hk hb;simp [hk,hb,gP,gt,gr,gg,hm0,c_153,q_13,q_9,h_14,h_20,h_26,hn_12 k hd (by simp [hk,hb])])⟩
  ·try simp at h_14
   cases hp
   try simp [gP,gt,gr,gg,hm0,c_153,q_13,q_9,h_14]
   refine zal ?_
   rw [X_7_]
   exact ⟨_,rfl,by simp [zac,zaa,gP,gt,gr,gg,hm0,c_153,q_13,q_9,h_14],(by repeat (first | exact ht_10 | exact zag _ | exact hT.up | exact hT | refine Tight.restrict ?_ | refine Tight.upd ?_ (by simp) (by simp) | refine Tight.killB ?_ | refine zak ?_)),(by repeat (first | exact ha_11 | exact fun k hk=>rfl | refine Agree.restrict hT ?_ | refine Agree.upd ?_ (by simp))),NoBoxD.restrict (by intro k hd hk hb;simp at hk hb;simp [hk,hb,gP,gt,gr,gg,hm0,c_153,q_13,q_9,h_14,hn_12 k hd (by simp [hk,hb])])⟩
 ·intro out hX
  rw [X_7_] at hX
  rcases r_28 with r_28 | r_28
  ·simp only [Sum.elim_inl,Sum.elim_inr] at hX hp
   obtain ⟨σ_30,rfl,q_34,ht_31,ha_32,hn_33⟩:=hX
   cases hp
   simp [Goal,FnEndI,memKill_hi,gP,gt,gr,gg,hm0,c_153,q_34,kill_back ha_32 hT]
  ·simp only [Sum.elim_inl,Sum.elim_inr] at hX hp
   obtain ⟨σ_35,rfl,q_39,ht_36,ha_37,hn_38⟩:=hX
   cases hp
   simp [Goal,FnEndI,memKill_hi,gP,gt,gr,gg,hm0,c_153,q_39,kill_back ha_37 hT]

abbrev G135 (g:Cfg):Prop:=Has Tryz.prog g 135 Tryz.f135 [] [] [(136,C136)] []
theorem wI135 {g:Cfg} (G:G135 g) {d:Nat} {mem:Mem} (hT:Tight d mem) {K_1:Key} {name:ByteArray} {c0:(List ByteArray)} {mk_1:Md} (hk_1:K_1.1≤d) (hb_1:mem K_1=some [cL mk_1 c0]) {y} (hp:impl_IsStmt_1 name c0=some y):callo g d 135 [av .shr name,.one (.ptr K_1 0)] mem=some (Res.res y,mem):=by
 have gP:=G.P;have gt:=G.tk;have gr:=G.ro;have gg:=G.gh
 have c_136:=G.cs (136,C136) (by simp)
 have hT2:memKill (fun k=>decide (d < k.1)) mem=mem:=hT
 have nk_1:∀ t,(K_1=(d+1,t))=False:=fun t=>by simp;intro h;rw [h] at hk_1;simp at hk_1;omega
 refine start_in (Tryz.f135.body.getD .skip) [.tmp 3] G Tryz.func135 (by kernel_rfl) (by simp [Tryz.ntmps135]) rfl ?_
 unfold impl_IsStmt_1 at hp
 obtain ⟨y_1,h_2,hp⟩:=zab hp
 have c_3:=C136_eq h_2
 simp at c_3
 cases hp
 simp [Tryz.f135,Goal,FnEndI,memKill_hi,gP,gt,gr,gg,c_136,hb_1,nk_1,c_3,hT2]

def C93:List AV→Option AV:=specP (X:=(List ByteArray) × TStmt × Unit) fun x=>impl_IsStmt x.1 x.2.1
theorem C93_eq {vars s} {y} (h:impl_IsStmt vars s=some y):C93 [av .shr vars,av .shr s]=some (Res.res y):=zai (x:=(vars,s,())) h
def g93:Cfg:={ P:=Tryz.prog,take:=[],keep:=[((134,3),{ hd:=[1,5,15,16,17],bx:=[],ex:=[5],rt:=[4] })],gho:=[],ctx:=[(90,C90),(136,C136),(153,C153)] }
@[simp] theorem g93_s:type_of% (cfg_s (g:=g93) rfl):=cfg_s rfl
theorem w93 {vars s} {y} (hp:impl_IsStmt vars s=some y):∃ m,callo g93 0 93 [av .shr vars,av .shr s] mem0=some (Res.res y,m):=by
 have G_134:G134 g93:=⟨rfl,by kernel_rfl,rfl,fun t=>by simp,noAway (fun t=>by simp) (by simp) (fun t=>by simp),by simp [lookN],fun i=>by simp [lookK],by simp [g93,lookK],by simp⟩
 have G_135:G135 g93:=⟨rfl,by kernel_rfl,rfl,fun t=>by simp,noAway (fun t=>by simp) (by simp) (fun t=>by simp),by simp [lookN],fun i=>by simp [lookK],by simp [g93,lookK],by simp⟩
 refine st0 [.tmp 4] Tryz.func93 ?_
 unfold impl_IsStmt at hp
 obtain ⟨y_1,h_2,hp⟩:=zab hp
 have c_3:=C90_eq h_2
 simp at c_3
 simp [Tryz.f93,c_3]
 rcases zad hp with ⟨h_4,hp⟩|⟨h_4,hp⟩
 ·try simp at h_4
  obtain ⟨y_5,h_6,hp⟩:=zab hp
  try simp [h_4]
  refine goal_call [av .shr s,.one (.fn 135 [((1,2),0)])] (Res.res y_5) (by simp [h_4]) (wI134 G_134 (by repeat (first | exact zag _ | exact hT.up | exact hT | (simp only [true_and];done) | refine Tight.upd ?_ (by simp) (by simp) | refine Tight.killB ?_ | refine zak ?_)) (by simp) (clo1 (p:=fun x0=>impl_IsStmt_1 x0 vars) fun d2 mem2 m0 x0 r2 hd2 ha2 hT2 hm0 hr2=>wI135 (mk_1:=.shr) G_135 hT2 (show 1≤d2 from hd2) ((ha2 _ (Nat.le_refl _)).trans (by simp [h_4])) hr2) h_6) ?_
  cases hp
  simp [Goal,FnEnd,h_4]
 ·try simp at h_4
  cases hp
  simp [Goal,FnEnd,h_4]
theorem pc93:PC Tryz.prog 93 C93:=pc_of (g:=g93) (zaj _ g93_s.2.1 ⟨pc90,pc136,pc153,trivial⟩) (ent Tryz.func93) fun x y h=>w93 h

abbrev G133 (g:Cfg):Prop:=Has Tryz.prog g 133 Tryz.f133 [] [(2,{ hd:=[0,1,7,8],bx:=[],ex:=[],rt:=[4] })] [] []
theorem wI133 {g:Cfg} (G:G133 g) {d:Nat} {mem:Mem} (hT:Tight d mem)  {s:(List TEdge)} {f_:(TEdge→Option (Bool))} {m_0:Md} (hm_0:LentM m_0) {fk_f_:Nat} {caps_f_:List (Key × Nat)} (hl_f_:∀ c∈caps_f_,c.1.1≤d) (hc_f_:Clo g d mem fk_f_ caps_f_ fun x:TEdge × Unit=>f_ x.1) {y} (hp:slices_IndexFunc_Edge s f_=some y):callo g d 133 [av m_0 s,.one (.fn fk_f_ caps_f_)] mem=some (Res.res y,mem):=by
 have gP:=G.P;have gt:=G.tk;have gr:=G.ro;have gg:=G.gh
 have k_2:=G.kp (2,{ hd:=[0,1,7,8],bx:=[],ex:=[],rt:=[4] }) (by simp)
 have hT2:memKill (fun k=>decide (d < k.1)) mem=mem:=hT
 refine start_in (Tryz.f133.body.getD .skip) [.tmp 4] G Tryz.func133 (by kernel_rfl) (by simp [Tryz.ntmps133]) rfl ?_
 unfold slices_IndexFunc_Edge at hp
 simp [Tryz.f133,gP,gt,gr,gg,hm_0.copy,hm_0.elem]
 obtain ⟨r_18,h_19,hp⟩:=zab hp
 obtain ⟨I_3,I_3_⟩:=exV fun (s_1:Int) (σ:St)=>(σ.env 0=uL m_0 s∧σ.env 7=uI (s.length:Int)∧σ.env 8=uI s_1)∧σ.env 1=.one (.fn fk_f_ caps_f_)∧σ.mem=mem
 obtain ⟨X_4,X_4_⟩:=exV fun (r_18:(Int) ⊕ (Unit)) (out:Out)=>Sum.elim (fun r_18=>∃ σ:St,out=.ret σ∧σ.env 4=uI r_18∧σ.mem=mem) (fun r_18=>∃ σ:St,out=.exit 0 σ∧σ.mem=mem) r_18
 refine loopP ({ hd:=[0,1,7,8],bx:=[],ex:=[],rt:=[4] }) I_3 X_4 h_19 (by exact k_2) ?_ ?_ ?_
 ·rw [I_3_]
  exact ⟨by simp [zac,zaa,gP,gt,gr,gg,hm_0.copy,hm_0.elem],by simp [zac,gP,gt,gr,gg,hm_0.copy,hm_0.elem] <;> first | (intro x x1 x2 hx;have h0:=hl_f_ _ hx;simp at h0;omega) | (intro x hx;have h0:=hl_f_ _ hx;simp at h0;omega),by simp [zaa,gP,gt,gr,gg,hm_0.copy,hm_0.elem]⟩
 ·intro s_1 σ_5 a_2 hI hp
  rw [I_3_] at hI
  obtain ⟨q_8,q_6,q_7⟩:=hI
  try simp [gP,gt,gr,gg,hm_0.copy,hm_0.elem,q_8,q_6,q_7]
  rcases zad hp with ⟨h_9,hp⟩|⟨h_9,hp⟩
  ·try simp at h_9
   obtain ⟨e_10,h_11,hp⟩:=zab hp
   have b_12:=at_lo h_11
   have b_13:=at_hi h_11
   try simp at b_12 b_13
   have c_14:=seg_at' h_11 0 5 (by decide) (ds:=[.sc (.int .i64 e_10.from_),.sc (.int .i64 e_10.to_),.sc (.int .i64 e_10.stmt.kind),.sc (.string e_10.stmt.a),.sc (.string e_10.stmt.b)]) rfl
   try simp at c_14
   obtain ⟨y_15,h_16,hp⟩:=zab hp
   try simp [gP,gt,gr,gg,hm_0.copy,hm_0.elem,q_8,q_6,q_7,h_9,b_12,b_13,c_14]
   refine goal_call ([av .shr e_10] ++ capsAV caps_f_) (Res.res y_15) (by simp [capsAV,gP,gt,gr,gg,hm_0.copy,hm_0.elem,q_8,q_6,q_7,h_9]) (hc_f_ _ _ _ (e_10,()) _ (Nat.le_succ d) (fun k hk=>by first | rfl | rw [q_7]) (by repeat (first | exact zag _ | exact hT.up | exact hT | (simp only [q_8,q_6,q_7];done) | refine Tight.upd ?_ (by simp) (by simp) | refine Tight.killB ?_ | refine zak ?_)) ⟨_,_,(.inl rfl),rfl,rfl⟩ h_16) ?_
   try simp [gP,gt,gr,gg,hm_0.copy,hm_0.elem,q_8,q_6,q_7,h_9]
   rcases zad hp with ⟨h_17,hp⟩|⟨h_17,hp⟩
   ·try simp at h_17
    cases hp
    try simp [gP,gt,gr,gg,hm_0.copy,hm_0.elem,q_8,q_6,q_7,h_9,h_17]
    refine zao ?_
    rw [X_4_]
    exact ⟨_,rfl,by simp [zac,zaa,gP,gt,gr,gg,hm_0.copy,hm_0.elem,q_8,q_6,q_7,h_9,h_17],by simp [zaa,gP,gt,gr,gg,hm_0.copy,hm_0.elem,q_8,q_6,q_7,h_9,h_17]⟩
   ·try simp at h_17
    cases hp
    try simp [gP,gt,gr,gg,hm_0.copy,hm_0.elem,q_8,q_6,q_7,h_9,h_17]
    refine zah ?_
    rw [I_3_]
    exact ⟨by simp [zac,zaa,gP,gt,gr,gg,hm_0.copy,hm_0.elem,q_8,q_6,q_7,h_9,h_17],by simp [zac,gP,gt,gr,gg,hm_0.copy,hm_0.elem,q_8,q_6,q_7,h_9,h_17] <;> first | (intro x x1 x2 hx;have h0:=hl_f_ _ hx;simp at h0;omega) | (intro x hx;have h0:=hl_f_ _ hx;simp at h0;omega),by simp [zaa,gP,gt,gr,gg,hm_0.copy,hm_0.elem,q_8,q_6,q_7,h_9,h_17]⟩
  ·try simp at h_9
   cases hp
   try simp [gP,gt,gr,gg,hm_0.copy,hm_0.elem,q_8,q_6,q_7,h_9]
   refine zal ?_
   rw [X_4_]
   exact ⟨_,rfl,by simp [zaa,gP,gt,gr,gg,hm_0.copy,hm_0.elem,q_8,q_6,q_7,h_9]⟩
 ·intro out hX
  rw [X_4_] at hX
  rcases r_18 with r_18 | r_18
  ·simp only [Sum.elim_inl,Sum.elim_inr] at hX hp
   obtain ⟨σ_20,rfl,q_22,q_21⟩:=hX
   cases hp
   simp [Goal,FnEndI,memKill_hi,gP,gt,gr,gg,hm_0.copy,hm_0.elem,q_22,q_21,hT2]
  ·simp only [Sum.elim_inl,Sum.elim_inr] at hX hp
   obtain ⟨σ_23,rfl,q_24⟩:=hX
   cases hp
   simp [Goal,FnEndI,memKill_hi,gP,gt,gr,gg,hm_0.copy,hm_0.elem,q_24,hT2]

abbrev G91 (g:Cfg):Prop:=Has Tryz.prog g 91 Tryz.f91 [] [] [] []
theorem wI91 {g:Cfg} (G:G91 g) (G_133:G133 g) {d:Nat} {mem:Mem} (hT:Tight d mem)  {s:(List TEdge)} {f_:(TEdge→Option (Bool))} {m_0:Md} (hm_0:LentM m_0) {fk_f_:Nat} {caps_f_:List (Key × Nat)} (hl_f_:∀ c∈caps_f_,c.1.1≤d) (hc_f_:Clo g d mem fk_f_ caps_f_ fun x:TEdge × Unit=>f_ x.1) {y} (hp:slices_ContainsFunc_Edge s f_=some y):callo g d 91 [av m_0 s,.one (.fn fk_f_ caps_f_)] mem=some (Res.res y,mem):=by
 have gP:=G.P;have gt:=G.tk;have gr:=G.ro;have gg:=G.gh
 have i_133:=G_133.no
 have hT2:memKill (fun k=>decide (d < k.1)) mem=mem:=hT
 refine start_in (Tryz.f91.body.getD .skip) [.tmp 4] G Tryz.func91 (by kernel_rfl) (by simp [Tryz.ntmps91]) rfl ?_
 unfold slices_ContainsFunc_Edge at hp
 obtain ⟨y_1,h_2,hp⟩:=zab hp
 simp [Tryz.f91,gP,gt,gr,gg,i_133,hm_0.copy,hm_0.elem]
 refine goal_call [av m_0 s,.one (.fn fk_f_ caps_f_)] (Res.res y_1) (by simp [gP,gt,gr,gg,i_133,hm_0.copy,hm_0.elem]) (wI133 G_133 (by repeat (first | exact zag _ | exact hT.up | exact hT | (simp only [true_and];done) | refine Tight.upd ?_ (by simp) (by simp) | refine Tight.killB ?_ | refine zak ?_)) hm_0 (fun c hc=>Nat.le_succ_of_le (hl_f_ c hc)) (hc_f_.mono (Nat.le_succ d) (fun k hk=>rfl)) h_2) ?_
 cases hp
 simp [Goal,FnEndI,memKill_hi,gP,gt,gr,gg,i_133,hm_0.copy,hm_0.elem,hT2]

abbrev G92 (g:Cfg):Prop:=Has Tryz.prog g 92 Tryz.f92 [] [] [(56,C56),(93,C93)] []
theorem wI92 {g:Cfg} (G:G92 g) {d:Nat} {mem:Mem} (hT:Tight d mem) {K_1:Key} {e:TEdge} {c0:TProgram} {mk_1:Md} (hk_1:K_1.1≤d) (hb_1:mem K_1=some [cL mk_1 c0.vars,cI c0.points,cL mk_1 c0.edges]) {y} (hp:impl_IsProgram_1 e c0=some y):callo g d 92 [av .shr e,.one (.ptr K_1 0)] mem=some (Res.res y,mem):=by
 have gP:=G.P;have gt:=G.tk;have gr:=G.ro;have gg:=G.gh
 have c_56:=G.cs (56,C56) (by simp)
 have c_93:=G.cs (93,C93) (by simp)
 have hT2:memKill (fun k=>decide (d < k.1)) mem=mem:=hT
 have hm0:∀ t,mem (d+1,t)=none:=fun t=>hT.none (by simp)
 have nk_1:∀ t,(K_1=(d+1,t))=False:=fun t=>by simp;intro h;rw [h] at hk_1;simp at hk_1;omega
 refine start_in (Tryz.f92.body.getD .skip) [.tmp 3] G Tryz.func92 (by kernel_rfl) (by simp [Tryz.ntmps92]) rfl ?_
 unfold impl_IsProgram_1 at hp
 obtain ⟨y_1,h_2,hp⟩:=zab hp
 have c_3:=C56_eq h_2
 simp at c_3
 simp [Tryz.f92,gP,gt,gr,gg,hm0,c_56,hb_1,nk_1,c_3]
 rcases zad hp with ⟨h_4,hp⟩|⟨h_4,hp⟩
 ·try simp at h_4
  obtain ⟨y_5,h_6,hp⟩:=zab hp
  have c_7:=C56_eq h_6
  simp at c_7
  try simp [gP,gt,gr,gg,hm0,c_56,hb_1,nk_1,h_4,c_7]
  rcases zad hp with ⟨h_8,hp⟩|⟨h_8,hp⟩
  ·try simp at h_8
   obtain ⟨y_9,h_10,hp⟩:=zab hp
   have c_11:=C93_eq h_10
   simp at c_11
   cases hp
   simp [Goal,FnEndI,memKill_hi,gP,gt,gr,gg,hm0,c_56,c_93,hb_1,nk_1,h_4,h_8,c_11,hT2]
  ·try simp at h_8
   cases hp
   simp [Goal,FnEndI,memKill_hi,gP,gt,gr,gg,hm0,c_56,c_93,hb_1,nk_1,h_4,h_8,hT2]
 ·try simp at h_4
  cases hp
  simp [Goal,FnEndI,memKill_hi,gP,gt,gr,gg,hm0,c_56,c_93,hb_1,nk_1,h_4,hT2]

def C53:List AV→Option AV:=specP (X:=TProgram × Unit) fun x=>impl_IsProgram x.1
theorem C53_eq {p_} {y} (h:impl_IsProgram p_=some y):C53 [av .shr p_]=some (Res.res y):=zai (x:=(p_,())) h
def g53:Cfg:={ P:=Tryz.prog,take:=[],keep:=[((133,2),{ hd:=[0,1,7,8],bx:=[],ex:=[],rt:=[4] })],gho:=[],ctx:=[(56,C56),(90,C90),(93,C93)] }
@[simp] theorem g53_s:type_of% (cfg_s (g:=g53) rfl):=cfg_s rfl
theorem w53 {p_} {y} (hp:impl_IsProgram p_=some y):∃ m,callo g53 0 53 [av .shr p_] mem0=some (Res.res y,m):=by
 have G_91:G91 g53:=⟨rfl,by kernel_rfl,rfl,fun t=>by simp,noAway (fun t=>by simp) (by simp) (fun t=>by simp),by simp [lookN],fun i=>by simp [lookK],by simp [g53,lookK],by simp⟩
 have G_133:G133 g53:=⟨rfl,by kernel_rfl,rfl,fun t=>by simp,noAway (fun t=>by simp) (by simp) (fun t=>by simp),by simp [lookN],fun i=>by simp [lookK],by simp [g53,lookK],by simp⟩
 have G_92:G92 g53:=⟨rfl,by kernel_rfl,rfl,fun t=>by simp,noAway (fun t=>by simp) (by simp) (fun t=>by simp),by simp [lookN],fun i=>by simp [lookK],by simp [g53,lookK],by simp⟩
 refine st0 [.tmp 2] Tryz.func53 ?_
 unfold impl_IsProgram at hp
 obtain ⟨y_1,h_2,hp⟩:=zab hp
 have c_3:=C90_eq h_2
 simp at c_3
 simp [Tryz.f53,c_3]
 rcases zad hp with ⟨h_4,hp⟩|⟨h_4,hp⟩
 ·try simp at h_4
  obtain ⟨y_5,h_6,hp⟩:=zab hp
  have c_7:=C56_eq h_6
  simp at c_7
  try simp [h_4,c_7]
  rcases zad hp with ⟨h_8,hp⟩|⟨h_8,hp⟩
  ·try simp at h_8
   try simp [h_4,h_8]
   rcases zad hp with ⟨h_9,hp⟩|⟨h_9,hp⟩
   ·try simp at h_9
    cases hp
    simp [Goal,FnEnd,h_4,h_8,h_9]
   ·try simp at h_9
    obtain ⟨y_10,h_11,hp⟩:=zab hp
    try simp [h_4,h_8,h_9]
    refine goal_call [av .shr p_.edges,.one (.fn 92 [((1,1),0)])] (Res.res y_10) (by simp [h_4,h_8,h_9]) (wI91 G_91 G_133 (by repeat (first | exact zag _ | exact hT.up | exact hT | (simp only [true_and];done) | refine Tight.upd ?_ (by simp) (by simp) | refine Tight.killB ?_ | refine zak ?_)) (.inl rfl) (by simp) (clo1 (p:=fun x0=>impl_IsProgram_1 x0 p_) fun d2 mem2 m0 x0 r2 hd2 ha2 hT2 hm0 hr2=>wI92 (mk_1:=.shr) G_92 hT2 (show 1≤d2 from hd2) ((ha2 _ (Nat.le_refl _)).trans (by simp [h_4,h_8,h_9])) hr2) h_11) ?_
    cases hp
    simp [Goal,FnEnd,h_4,h_8,h_9]
  ·try simp at h_8
   cases hp
   simp [Goal,FnEnd,h_4,h_8]
 ·try simp at h_4
  cases hp
  simp [Goal,FnEnd,h_4]
theorem pc53:PC Tryz.prog 53 C53:=pc_of (g:=g53) (zaj _ g53_s.2.1 ⟨pc56,pc90,pc93,trivial⟩) (ent Tryz.func53) fun x y h=>w53 h

def C140:List AV→Option AV:=specP (X:=THeap × Int × Unit) fun x=>impl_Heap_isCell x.1 x.2.1
theorem C140_eq {h_ n_} {y} (h:impl_Heap_isCell h_ n_=some y):C140 [av .shr h_,av .shr n_]=some (Res.res y):=zai (x:=(h_,n_,())) h
def g140:Cfg:={ P:=Tryz.prog,take:=[],keep:=[],gho:=[],ctx:=[(56,C56)] }
@[simp] theorem g140_s:type_of% (cfg_s (g:=g140) rfl):=cfg_s rfl
theorem w140 {h_ n_} {y} (hp:impl_Heap_isCell h_ n_=some y):∃ m,callo g140 0 140 [av .shr h_,av .shr n_] mem0=some (Res.res y,m):=by
 refine st0 [.tmp 4] Tryz.func140 ?_
 unfold impl_Heap_isCell at hp
 obtain ⟨y_1,h_2,hp⟩:=zab hp
 have c_3:=C56_eq h_2
 simp at c_3
 cases hp
 simp [Tryz.f140,Goal,FnEnd,c_3]
theorem pc140:PC Tryz.prog 140 C140:=pc_of (g:=g140) (zaj _ g140_s.2.1 ⟨pc56,trivial⟩) (ent Tryz.func140) fun x y h=>w140 h

abbrev G154 (g:Cfg):Prop:=Has Tryz.prog g 154 Tryz.f154 [] [(2,{ hd:=[0,1,7,8],bx:=[],ex:=[],rt:=[4] })] [] []
theorem wI154 {g:Cfg} (G:G154 g) {d:Nat} {mem:Mem} (hT:Tight d mem)  {s:(List Int)} {f_:(Int→Option (Bool))} {m_0:Md} (hm_0:LentM m_0) {fk_f_:Nat} {caps_f_:List (Key × Nat)} (hl_f_:∀ c∈caps_f_,c.1.1≤d) (hc_f_:Clo g d mem fk_f_ caps_f_ fun x:Int × Unit=>f_ x.1) {y} (hp:slices_IndexFunc_int s f_=some y):callo g d 154 [av m_0 s,.one (.fn fk_f_ caps_f_)] mem=some (Res.res y,mem):=by
 have gP:=G.P;have gt:=G.tk;have gr:=G.ro;have gg:=G.gh
 have k_2:=G.kp (2,{ hd:=[0,1,7,8],bx:=[],ex:=[],rt:=[4] }) (by simp)
 have hT2:memKill (fun k=>decide (d < k.1)) mem=mem:=hT
 refine start_in (Tryz.f154.body.getD .skip) [.tmp 4] G Tryz.func154 (by kernel_rfl) (by simp [Tryz.ntmps154]) rfl ?_
 unfold slices_IndexFunc_int at hp
 simp [Tryz.f154,gP,gt,gr,gg,hm_0.copy,hm_0.elem]
 obtain ⟨r_18,h_19,hp⟩:=zab hp
 obtain ⟨I_3,I_3_⟩:=exV fun (s_1:Int) (σ:St)=>(σ.env 0=uL m_0 s∧σ.env 7=uI (s.length:Int)∧σ.env 8=uI s_1)∧σ.env 1=.one (.fn fk_f_ caps_f_)∧σ.mem=mem
 obtain ⟨X_4,X_4_⟩:=exV fun (r_18:(Int) ⊕ (Unit)) (out:Out)=>Sum.elim (fun r_18=>∃ σ:St,out=.ret σ∧σ.env 4=uI r_18∧σ.mem=mem) (fun r_18=>∃ σ:St,out=.exit 0 σ∧σ.mem=mem) r_18
 refine loopP ({ hd:=[0,1,7,8],bx:=[],ex:=[],rt:=[4] }) I_3 X_4 h_19 (by exact k_2) ?_ ?_ ?_
 ·rw [I_3_]
  exact ⟨by simp [zac,zaa,gP,gt,gr,gg,hm_0.copy,hm_0.elem],by simp [zac,gP,gt,gr,gg,hm_0.copy,hm_0.elem] <;> first | (intro x x1 x2 hx;have h0:=hl_f_ _ hx;simp at h0;omega) | (intro x hx;have h0:=hl_f_ _ hx;simp at h0;omega),by simp [zaa,gP,gt,gr,gg,hm_0.copy,hm_0.elem]⟩
 ·intro s_1 σ_5 a_2 hI hp
  rw [I_3_] at hI
  obtain ⟨q_8,q_6,q_7⟩:=hI
  try simp [gP,gt,gr,gg,hm_0.copy,hm_0.elem,q_8,q_6,q_7]
  rcases zad hp with ⟨h_9,hp⟩|⟨h_9,hp⟩
  ·try simp at h_9
   obtain ⟨e_10,h_11,hp⟩:=zab hp
   have b_12:=at_lo h_11
   have b_13:=at_hi h_11
   try simp at b_12 b_13
   have c_14:=seg_at' h_11 0 1 (by decide) (ds:=[.sc (.int .i64 e_10)]) rfl
   try simp at c_14
   obtain ⟨y_15,h_16,hp⟩:=zab hp
   try simp [gP,gt,gr,gg,hm_0.copy,hm_0.elem,q_8,q_6,q_7,h_9,b_12,b_13,c_14]
   refine goal_call ([av .shr e_10] ++ capsAV caps_f_) (Res.res y_15) (by simp [capsAV,gP,gt,gr,gg,hm_0.copy,hm_0.elem,q_8,q_6,q_7,h_9]) (hc_f_ _ _ _ (e_10,()) _ (Nat.le_succ d) (fun k hk=>by first | rfl | rw [q_7]) (by repeat (first | exact zag _ | exact hT.up | exact hT | (simp only [q_8,q_6,q_7];done) | refine Tight.upd ?_ (by simp) (by simp) | refine Tight.killB ?_ | refine zak ?_)) ⟨_,_,(.inl rfl),rfl,rfl⟩ h_16) ?_
   try simp [gP,gt,gr,gg,hm_0.copy,hm_0.elem,q_8,q_6,q_7,h_9]
   rcases zad hp with ⟨h_17,hp⟩|⟨h_17,hp⟩
   ·try simp at h_17
    cases hp
    try simp [gP,gt,gr,gg,hm_0.copy,hm_0.elem,q_8,q_6,q_7,h_9,h_17]
    refine zao ?_
    rw [X_4_]
    exact ⟨_,rfl,by simp [zac,zaa,gP,gt,gr,gg,hm_0.copy,hm_0.elem,q_8,q_6,q_7,h_9,h_17],by simp [zaa,gP,gt,gr,gg,hm_0.copy,hm_0.elem,q_8,q_6,q_7,h_9,h_17]⟩
   ·try simp at h_17
    cases hp
    try simp [gP,gt,gr,gg,hm_0.copy,hm_0.elem,q_8,q_6,q_7,h_9,h_17]
    refine zah ?_
    rw [I_3_]
    exact ⟨by simp [zac,zaa,gP,gt,gr,gg,hm_0.copy,hm_0.elem,q_8,q_6,q_7,h_9,h_17],by simp [zac,gP,gt,gr,gg,hm_0.copy,hm_0.elem,q_8,q_6,q_7,h_9,h_17] <;> first | (intro x x1 x2 hx;have h0:=hl_f_ _ hx;simp at h0;omega) | (intro x hx;have h0:=hl_f_ _ hx;simp at h0;omega),by simp [zaa,gP,gt,gr,gg,hm_0.copy,hm_0.elem,q_8,q_6,q_7,h_9,h_17]⟩
  ·try simp at h_9
   cases hp
   try simp [gP,gt,gr,gg,hm_0.copy,hm_0.elem,q_8,q_6,q_7,h_9]
   refine zal ?_
   rw [X_4_]
   exact ⟨_,rfl,by simp [zaa,gP,gt,gr,gg,hm_0.copy,hm_0.elem,q_8,q_6,q_7,h_9]⟩
 ·intro out hX
  rw [X_4_] at hX
  rcases r_18 with r_18 | r_18
  ·simp only [Sum.elim_inl,Sum.elim_inr] at hX hp
   obtain ⟨σ_20,rfl,q_22,q_21⟩:=hX
   cases hp
   simp [Goal,FnEndI,memKill_hi,gP,gt,gr,gg,hm_0.copy,hm_0.elem,q_22,q_21,hT2]
  ·simp only [Sum.elim_inl,Sum.elim_inr] at hX hp
   obtain ⟨σ_23,rfl,q_24⟩:=hX
   cases hp
   simp [Goal,FnEndI,memKill_hi,gP,gt,gr,gg,hm_0.copy,hm_0.elem,q_24,hT2]

abbrev G137 (g:Cfg):Prop:=Has Tryz.prog g 137 Tryz.f137 [] [] [] []
theorem wI137 {g:Cfg} (G:G137 g) (G_154:G154 g) {d:Nat} {mem:Mem} (hT:Tight d mem)  {s:(List Int)} {f_:(Int→Option (Bool))} {m_0:Md} (hm_0:LentM m_0) {fk_f_:Nat} {caps_f_:List (Key × Nat)} (hl_f_:∀ c∈caps_f_,c.1.1≤d) (hc_f_:Clo g d mem fk_f_ caps_f_ fun x:Int × Unit=>f_ x.1) {y} (hp:slices_ContainsFunc_int s f_=some y):callo g d 137 [av m_0 s,.one (.fn fk_f_ caps_f_)] mem=some (Res.res y,mem):=by
 have gP:=G.P;have gt:=G.tk;have gr:=G.ro;have gg:=G.gh
 have i_154:=G_154.no
 have hT2:memKill (fun k=>decide (d < k.1)) mem=mem:=hT
 refine start_in (Tryz.f137.body.getD .skip) [.tmp 4] G Tryz.func137 (by kernel_rfl) (by simp [Tryz.ntmps137]) rfl ?_
 unfold slices_ContainsFunc_int at hp
 obtain ⟨y_1,h_2,hp⟩:=zab hp
 simp [Tryz.f137,gP,gt,gr,gg,i_154,hm_0.copy,hm_0.elem]
 refine goal_call [av m_0 s,.one (.fn fk_f_ caps_f_)] (Res.res y_1) (by simp [gP,gt,gr,gg,i_154,hm_0.copy,hm_0.elem]) (wI154 G_154 (by repeat (first | exact zag _ | exact hT.up | exact hT | (simp only [true_and];done) | refine Tight.upd ?_ (by simp) (by simp) | refine Tight.killB ?_ | refine zak ?_)) hm_0 (fun c hc=>Nat.le_succ_of_le (hl_f_ c hc)) (hc_f_.mono (Nat.le_succ d) (fun k hk=>rfl)) h_2) ?_
 cases hp
 simp [Goal,FnEndI,memKill_hi,gP,gt,gr,gg,i_154,hm_0.copy,hm_0.elem,hT2]

abbrev G139 (g:Cfg):Prop:=Has Tryz.prog g 139 Tryz.f139 [] [] [(140,C140)] []
theorem wI139 {g:Cfg} (G:G139 g) {d:Nat} {mem:Mem} (hT:Tight d mem) {K_1:Key} {n_:Int} {c0:THeap} {mk_1:Md} (hk_1:K_1.1≤d) (hb_1:mem K_1=some [cL mk_1 c0.vars,cL mk_1 c0.next]) {y} (hp:impl_Heap_areCells_1 n_ c0=some y):callo g d 139 [av .shr n_,.one (.ptr K_1 0)] mem=some (Res.res y,mem):=by
 have gP:=G.P;have gt:=G.tk;have gr:=G.ro;have gg:=G.gh
 have c_140:=G.cs (140,C140) (by simp)
 have hT2:memKill (fun k=>decide (d < k.1)) mem=mem:=hT
 have nk_1:∀ t,(K_1=(d+1,t))=False:=fun t=>by simp;intro h;rw [h] at hk_1;simp at hk_1;omega
 refine start_in (Tryz.f139.body.getD .skip) [.tmp 3] G Tryz.func139 (by kernel_rfl) (by simp [Tryz.ntmps139]) rfl ?_
 unfold impl_Heap_areCells_1 at hp
 simp [Tryz.f139,gP,gt,gr,gg,hb_1,nk_1]
 rcases zad hp with ⟨h_1,hp⟩|⟨h_1,hp⟩
 ·try simp at h_1
  obtain ⟨y_2,h_3,hp⟩:=zab hp
  have c_4:=C140_eq h_3
  simp at c_4
  cases hp
  simp [Goal,FnEndI,memKill_hi,gP,gt,gr,gg,c_140,hb_1,nk_1,h_1,c_4,hT2]
 ·try simp at h_1
  cases hp
  simp [Goal,FnEndI,memKill_hi,gP,gt,gr,gg,c_140,hb_1,nk_1,h_1,hT2]

def C94:List AV→Option AV:=specP (X:=THeap × Unit) fun x=>impl_Heap_areCells x.1
theorem C94_eq {h_} {y} (h:impl_Heap_areCells h_=some y):C94 [av .shr h_]=some (Res.res y):=zai (x:=(h_,())) h
def g94:Cfg:={ P:=Tryz.prog,take:=[],keep:=[((154,2),{ hd:=[0,1,7,8],bx:=[],ex:=[],rt:=[4] })],gho:=[],ctx:=[(138,C138),(140,C140)] }
@[simp] theorem g94_s:type_of% (cfg_s (g:=g94) rfl):=cfg_s rfl
theorem w94 {h_} {y} (hp:impl_Heap_areCells h_=some y):∃ m,callo g94 0 94 [av .shr h_] mem0=some (Res.res y,m):=by
 have G_137:G137 g94:=⟨rfl,by kernel_rfl,rfl,fun t=>by simp,noAway (fun t=>by simp) (by simp) (fun t=>by simp),by simp [lookN],fun i=>by simp [lookK],by simp [g94,lookK],by simp⟩
 have G_154:G154 g94:=⟨rfl,by kernel_rfl,rfl,fun t=>by simp,noAway (fun t=>by simp) (by simp) (fun t=>by simp),by simp [lookN],fun i=>by simp [lookK],by simp [g94,lookK],by simp⟩
 have G_139:G139 g94:=⟨rfl,by kernel_rfl,rfl,fun t=>by simp,noAway (fun t=>by simp) (by simp) (fun t=>by simp),by simp [lookN],fun i=>by simp [lookK],by simp [g94,lookK],by simp⟩
 refine st0 [.tmp 2] Tryz.func94 ?_
 unfold impl_Heap_areCells at hp
 obtain ⟨y_1,h_2,hp⟩:=zab hp
 have c_3:=C138_eq h_2
 simp at c_3
 obtain ⟨y_4,h_5,hp⟩:=zab hp
 simp [Tryz.f94,c_3]
 refine goal_call [av .bor y_1,.one (.fn 139 [((1,1),0)])] (Res.res y_4) (by simp) (wI137 G_137 G_154 (by repeat (first | exact zag _ | exact hT.up | exact hT | (simp only [true_and];done) | refine Tight.upd ?_ (by simp) (by simp) | refine Tight.killB ?_ | refine zak ?_)) (.inr rfl) (by simp) (clo1 (p:=fun x0=>impl_Heap_areCells_1 x0 h_) fun d2 mem2 m0 x0 r2 hd2 ha2 hT2 hm0 hr2=>wI139 (mk_1:=.shr) G_139 hT2 (show 1≤d2 from hd2) ((ha2 _ (Nat.le_refl _)).trans (by simp [c_3])) hr2) h_5) ?_
 cases hp
 simp [Goal,FnEnd]
theorem pc94:PC Tryz.prog 94 C94:=pc_of (g:=g94) (zaj _ g94_s.2.1 ⟨pc138,pc140,trivial⟩) (ent Tryz.func94) fun x y h=>w94 h

def C142:List AV→Option AV:=specP (X:=(List Int) × Int × Unit) fun x=>slices_Index_int x.1 x.2.1
theorem C142_eq {s v} {y} (h:slices_Index_int s v=some y):C142 [av .shr s,av .shr v]=some (Res.res y):=zai (x:=(s,v,())) h
def g142:Cfg:={ P:=Tryz.prog,take:=[],keep:=[((142,2),{ hd:=[0,1,7,8],bx:=[],ex:=[],rt:=[4] })],gho:=[],ctx:=[] }
@[simp] theorem g142_s:type_of% (cfg_s (g:=g142) rfl):=cfg_s rfl
theorem w142 {s v} {y} (hp:slices_Index_int s v=some y):∃ m,callo g142 0 142 [av .shr s,av .shr v] mem0=some (Res.res y,m):=by
 refine st0 [.tmp 4] Tryz.func142 ?_
 unfold slices_Index_int at hp
 simp [Tryz.f142]
 obtain ⟨r_15,h_16,hp⟩:=zab hp
 obtain ⟨I_3,I_3_⟩:=exV fun (s_1:Int) (σ:St)=>(σ.env 0=uL .shr s∧σ.env 1=uI v∧σ.env 7=uI (s.length:Int)∧σ.env 8=uI s_1)∧σ.mem=mem0
 obtain ⟨X_4,X_4_⟩:=exV fun (r_15:(Int) ⊕ (Unit)) (out:Out)=>Sum.elim (fun r_15=>∃ σ:St,out=.ret σ∧σ.env 4=uI r_15∧σ.mem=mem0) (fun r_15=>∃ σ:St,out=.exit 0 σ∧σ.mem=mem0) r_15
 refine loopP ({ hd:=[0,1,7,8],bx:=[],ex:=[],rt:=[4] }) I_3 X_4 h_16 (by exact rfl) ?_ ?_ ?_
 ·rw [I_3_]
  exact ⟨by simp [zac,zaa],by simp [zaa]⟩
 ·intro s_1 σ_5 a_2 hI hp
  rw [I_3_] at hI
  obtain ⟨q_7,q_6⟩:=hI
  try simp [q_7,q_6]
  rcases zad hp with ⟨h_8,hp⟩|⟨h_8,hp⟩
  ·try simp at h_8
   obtain ⟨e_9,h_10,hp⟩:=zab hp
   have b_11:=at_lo h_10
   have b_12:=at_hi h_10
   try simp at b_11 b_12
   have c_13:=seg_at' h_10 0 1 (by decide) (ds:=[.sc (.int .i64 e_9)]) rfl
   try simp at c_13
   try simp [q_7,q_6,h_8,b_11,b_12,c_13]
   rcases zad hp with ⟨h_14,hp⟩|⟨h_14,hp⟩
   ·try simp at h_14
    cases hp
    try simp [q_7,q_6,h_8,h_14]
    refine zao ?_
    rw [X_4_]
    exact ⟨_,rfl,by simp [zac,zaa,q_7,q_6,h_8,h_14],by simp [zaa,q_7,q_6,h_8,h_14]⟩
   ·try simp at h_14
    cases hp
    try simp [q_7,q_6,h_8,h_14]
    refine zah ?_
    rw [I_3_]
    exact ⟨by simp [zac,zaa,q_7,q_6,h_8,h_14],by simp [zaa,q_7,q_6,h_8,h_14]⟩
  ·try simp at h_8
   cases hp
   try simp [q_7,q_6,h_8]
   refine zal ?_
   rw [X_4_]
   exact ⟨_,rfl,by simp [zaa,q_7,q_6,h_8]⟩
 ·intro out hX
  rw [X_4_] at hX
  rcases r_15 with r_15 | r_15
  ·simp only [Sum.elim_inl,Sum.elim_inr] at hX hp
   obtain ⟨σ_17,rfl,q_19,q_18⟩:=hX
   cases hp
   simp [Goal,FnEnd,q_19,q_18]
  ·simp only [Sum.elim_inl,Sum.elim_inr] at hX hp
   obtain ⟨σ_20,rfl,q_21⟩:=hX
   cases hp
   simp [Goal,FnEnd,q_21]
theorem pc142:PC Tryz.prog 142 C142:=pc_of (g:=g142) (zaj [] rfl trivial) (ent Tryz.func142) fun x y h=>w142 h

def C104:List AV→Option AV:=specP (X:=(List Int) × Int × Unit) fun x=>zam x.1 x.2.1
theorem C104_eq {s v} {y} (h:zam s v=some y):C104 [av .shr s,av .shr v]=some (Res.res y):=zai (x:=(s,v,())) h
def g104:Cfg:={ P:=Tryz.prog,take:=[],keep:=[],gho:=[],ctx:=[(142,C142)] }
@[simp] theorem g104_s:type_of% (cfg_s (g:=g104) rfl):=cfg_s rfl
theorem w104 {s v} {y} (hp:zam s v=some y):∃ m,callo g104 0 104 [av .shr s,av .shr v] mem0=some (Res.res y,m):=by
 refine st0 [.tmp 4] Tryz.func104 ?_
 unfold zam at hp
 obtain ⟨y_1,h_2,hp⟩:=zab hp
 have c_3:=C142_eq h_2
 simp at c_3
 cases hp
 simp [Tryz.f104,Goal,FnEnd,c_3]
theorem pc104:PC Tryz.prog 104 C104:=pc_of (g:=g104) (zaj _ g104_s.2.1 ⟨pc142,trivial⟩) (ent Tryz.func104) fun x y h=>w104 h

def C105:List AV→Option AV:=specP (X:=THeap × Int × Unit) fun x=>impl_Followed x.1 x.2.1
theorem C105_eq {h_ cell} {y} (h:impl_Followed h_ cell=some y):C105 [av .shr h_,av .shr cell]=some (Res.res y):=zai (x:=(h_,cell,())) h
def g105:Cfg:={ P:=Tryz.prog,take:=[(105,27),(105,31)],keep:=[((105,3),{ hd:=[1,2,5,6],bx:=[],ex:=[5],rt:=[4] })],gho:=[],ctx:=[(104,C104),(140,C140)] }
@[simp] theorem g105_s:type_of% (cfg_s (g:=g105) rfl):=cfg_s rfl
theorem w105 {h_ cell} {y} (hp:impl_Followed h_ cell=some y):∃ m,callo g105 0 105 [av .shr h_,av .shr cell] mem0=some (Res.res y,m):=by
 refine st0 [.tmp 4] Tryz.func105 ?_
 unfold impl_Followed at hp
 simp [Tryz.f105]
 obtain ⟨r_40,h_41,hp⟩:=zab hp
 obtain ⟨I_3,I_3_⟩:=exV fun (s_1:(List Int) × Int) (σ:St)=>(σ.env 1=uI cell∧σ.env 2=uP (1,2)∧σ.env 5=uL .own s_1.1∧σ.env 6=uI s_1.2∧σ.mem (1,2)=some [cL .shr h_.vars,cL .shr h_.next])∧NoBox [(1,2)] σ.mem
 obtain ⟨X_4,X_4_⟩:=exV fun (r_40:((List Int)) ⊕ (Unit)) (out:Out)=>Sum.elim (fun r_40=>∃ σ:St,out=.exit 0 σ∧(σ.env 5=uL .own r_40∧σ.mem (1,2)=some [cL .shr h_.vars,cL .shr h_.next])∧NoBox [(1,2)] σ.mem) (fun r_40=>∃ σ:St,out=.ret σ∧(σ.env 4=.one (.l .own 0 [])∧σ.mem (1,2)=some [cL .shr h_.vars,cL .shr h_.next])∧NoBox [(1,2)] σ.mem) r_40
 refine loopP ({ hd:=[1,2,5,6],bx:=[],ex:=[5],rt:=[4] }) I_3 X_4 h_41 (by exact rfl) ?_ ?_ ?_
 ·rw [I_3_]
  exact ⟨by simp [zac,zaa],NoBox.restrict (by intro k hk hb;simp at hk hb;simp [hk,hb])⟩
 ·intro s_1 σ_5 a_2 hI hp
  rw [I_3_] at hI
  obtain ⟨q_7,hn_6⟩:=hI
  try simp [q_7]
  rcases zad hp with ⟨h_8,hp⟩|⟨h_8,hp⟩
  ·try simp at h_8
   obtain ⟨y_9,h_10,hp⟩:=zab hp
   have c_11:=C140_eq h_10
   simp at c_11
   try simp [q_7,h_8,c_11]
   rcases zad hp with ⟨h_12,hp⟩|⟨h_12,hp⟩
   ·try simp at h_12
    obtain ⟨y_13,h_14,hp⟩:=zab hp
    have c_15:=C104_eq h_14
    simp at c_15
    try simp [q_7,h_8,h_12,c_15]
    rcases zad hp with ⟨h_16,hp⟩|⟨h_16,hp⟩
    ·try simp at h_16
     cases hp
     try simp [q_7,h_8,h_12,h_16]
     refine zal ?_
     rw [X_4_]
     exact ⟨_,rfl,by simp [zac,zaa,q_7,h_8,h_12,h_16],NoBox.restrict (by intro k hk hb;simp at hk hb;simp [hk,hb,q_7,h_8,h_12,h_16,hn_6 k (by simp [hk,hb])])⟩
    ·try simp at h_16
     obtain ⟨_,h_17,hp⟩:=zab hp
     have b_18:=room_ok h_17
     try simp at b_18
     obtain ⟨e_19,h_20,hp⟩:=zab hp
     have b_21:=at_lo h_20
     have b_22:=at_hi h_20
     try simp at b_21 b_22
     have c_23:=seg_at' h_20 0 1 (by decide) (ds:=[.sc (.int .i64 e_19)]) rfl
     try simp at c_23
     cases hp
     try simp [q_7,h_8,h_12,h_16,b_18,b_21,b_22,c_23]
     refine zah ?_
     rw [I_3_]
     exact ⟨by simp [zac,zaa,q_7,h_8,h_12,h_16,b_18,b_21,b_22,c_23],NoBox.restrict (by intro k hk hb;simp at hk hb;simp [hk,hb,q_7,h_8,h_12,h_16,b_18,b_21,b_22,c_23,hn_6 k (by simp [hk,hb])])⟩
   ·try simp at h_12
    cases hp
    try simp [q_7,h_8,h_12]
    refine zao ?_
    rw [X_4_]
    exact ⟨_,rfl,by simp [zac,zaa,q_7,h_8,h_12],NoBox.restrict (by intro k hk hb;simp at hk hb;simp [hk,hb,q_7,h_8,h_12,hn_6 k (by simp [hk,hb])])⟩
  ·try simp at h_8
   try simp [q_7,h_8]
   rcases zad hp with ⟨h_24,hp⟩|⟨h_24,hp⟩
   ·try simp at h_24
    obtain ⟨y_25,h_26,hp⟩:=zab hp
    have c_27:=C140_eq h_26
    simp at c_27
    try simp [q_7,h_8,h_24,c_27]
    rcases zad hp with ⟨h_28,hp⟩|⟨h_28,hp⟩
    ·try simp at h_28
     obtain ⟨y_29,h_30,hp⟩:=zab hp
     have c_31:=C104_eq h_30
     simp at c_31
     try simp [q_7,h_8,h_24,h_28,c_31]
     rcases zad hp with ⟨h_32,hp⟩|⟨h_32,hp⟩
     ·try simp at h_32
      cases hp
      try simp [q_7,h_8,h_24,h_28,h_32]
      refine zal ?_
      rw [X_4_]
      exact ⟨_,rfl,by simp [zac,zaa,q_7,h_8,h_24,h_28,h_32],NoBox.restrict (by intro k hk hb;simp at hk hb;simp [hk,hb,q_7,h_8,h_24,h_28,h_32,hn_6 k (by simp [hk,hb])])⟩
     ·try simp at h_32
      obtain ⟨_,h_33,hp⟩:=zab hp
      have b_34:=room_ok h_33
      try simp at b_34
      obtain ⟨e_35,h_36,hp⟩:=zab hp
      have b_37:=at_lo h_36
      have b_38:=at_hi h_36
      try simp at b_37 b_38
      have c_39:=seg_at' h_36 0 1 (by decide) (ds:=[.sc (.int .i64 e_35)]) rfl
      try simp at c_39
      cases hp
      try simp [q_7,h_8,h_24,h_28,h_32,b_34,b_37,b_38,c_39]
      refine zah ?_
      rw [I_3_]
      exact ⟨by simp [zac,zaa,q_7,h_8,h_24,h_28,h_32,b_34,b_37,b_38,c_39],NoBox.restrict (by intro k hk hb;simp at hk hb;simp [hk,hb,q_7,h_8,h_24,h_28,h_32,b_34,b_37,b_38,c_39,hn_6 k (by simp [hk,hb])])⟩
    ·try simp at h_28
     cases hp
     try simp [q_7,h_8,h_24,h_28]
     refine zao ?_
     rw [X_4_]
     exact ⟨_,rfl,by simp [zac,zaa,q_7,h_8,h_24,h_28],NoBox.restrict (by intro k hk hb;simp at hk hb;simp [hk,hb,q_7,h_8,h_24,h_28,hn_6 k (by simp [hk,hb])])⟩
   ·try simp at h_24
    cases hp
    try simp [q_7,h_8,h_24]
    refine zal ?_
    rw [X_4_]
    exact ⟨_,rfl,by simp [zac,zaa,q_7,h_8,h_24],NoBox.restrict (by intro k hk hb;simp at hk hb;simp [hk,hb,q_7,h_8,h_24,hn_6 k (by simp [hk,hb])])⟩
 ·intro out hX
  rw [X_4_] at hX
  rcases r_40 with r_40 | r_40
  ·simp only [Sum.elim_inl,Sum.elim_inr] at hX hp
   obtain ⟨σ_42,rfl,q_44,hn_43⟩:=hX
   cases hp
   simp [Goal,FnEnd,q_44]
  ·simp only [Sum.elim_inl,Sum.elim_inr] at hX hp
   obtain ⟨σ_45,rfl,q_47,hn_46⟩:=hX
   cases hp
   simp [Goal,FnEnd,q_47]
theorem pc105:PC Tryz.prog 105 C105:=pc_of (g:=g105) (zaj _ g105_s.2.1 ⟨pc104,pc140,trivial⟩) (ent Tryz.func105) fun x y h=>w105 h
end Go.Proofs

