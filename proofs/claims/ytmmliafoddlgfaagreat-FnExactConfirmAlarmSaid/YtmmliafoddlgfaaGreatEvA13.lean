import Derived.Test.YtmmliafoddlgfaaGreatEvA12
set_option linter.unusedSimpArgs false
set_option linter.unusedVariables false
set_option linter.unnecessarySimpa false
noncomputable section
set_option maxHeartbeats 4000000
set_option maxRecDepth 100000
namespace Go.Proofs
open Go.Ev
def C43:List AV→Option AV:=specP (X:=(List ByteArray) × Int × Unit) fun x=>laws_szStringS x.1 x.2.1
theorem C43_eq {a_ left} {y} (h:laws_szStringS a_ left=some y):C43 [av .shr a_,av .shr left]=some (Res.res y):=zai (x:=(a_,left,())) h
def g43:Cfg:={ P:=Tryz.prog,take:=[],keep:=[((43,5),{ hd:=[0,1,5],bx:=[],ex:=[1],rt:=[4] })],gho:=[],ctx:=[] }
@[simp] theorem g43_s:type_of% (cfg_s (g:=g43) rfl):=cfg_s rfl
theorem w43 {a_ left} {y} (hp:laws_szStringS a_ left=some y):∃ m,callo g43 0 43 [av .shr a_,av .shr left] mem0=some (Res.res y,m):=by
 refine st0 [.tmp 4] Tryz.func43 ?_
 unfold laws_szStringS at hp
 simp [Tryz.f43]
 rcases zad hp with ⟨h_1,hp⟩|⟨h_1,hp⟩
 ·try simp at h_1
  cases hp
  simp [Goal,FnEnd,h_1]
 ·try simp at h_1
  try simp [h_1]
  obtain ⟨r_16,h_17,hp⟩:=zab hp
  obtain ⟨I_4,I_4_⟩:=exV fun (s_2:Int × Int) (σ:St)=>(σ.env 0=uL .shr a_∧σ.env 1=uI s_2.1∧σ.env 5=uI s_2.2)∧σ.mem=mem0
  obtain ⟨X_5,X_5_⟩:=exV fun (r_16:(Int) ⊕ (Int)) (out:Out)=>Sum.elim (fun r_16=>∃ σ:St,out=.ret σ∧σ.env 4=uI r_16∧σ.mem=mem0) (fun r_16=>∃ σ:St,out=.exit 0 σ∧σ.env 1=uI r_16∧σ.mem=mem0) r_16
  refine loopP ({ hd:=[0,1,5],bx:=[],ex:=[1],rt:=[4] }) I_4 X_5 h_17 (by exact rfl) ?_ ?_ ?_
  ·rw [I_4_]
   exact ⟨by simp [zac,zaa,h_1],by simp [zaa,h_1]⟩
  ·intro s_2 σ_6 a_3 hI hp
   rw [I_4_] at hI
   obtain ⟨q_8,q_7⟩:=hI
   try simp [h_1,q_8,q_7]
   rcases zad hp with ⟨h_9,hp⟩|⟨h_9,hp⟩
   ·try simp at h_9
    obtain ⟨e_10,h_11,hp⟩:=zab hp
    have b_12:=at_lo h_11
    have b_13:=at_hi h_11
    try simp at b_12 b_13
    have c_14:=seg_at' h_11 0 1 (by decide) (ds:=[.sc (.string e_10)]) rfl
    try simp at c_14
    try simp [h_1,q_8,q_7,h_9,b_12,b_13,c_14]
    rcases zad hp with ⟨h_15,hp⟩|⟨h_15,hp⟩
    ·try simp at h_15
     cases hp
     try simp [h_1,q_8,q_7,h_9,h_15]
     refine zao ?_
     rw [X_5_]
     exact ⟨_,rfl,by simp [zac,zaa,h_1,q_8,q_7,h_9,h_15],by simp [zaa,h_1,q_8,q_7,h_9,h_15]⟩
    ·try simp at h_15
     cases hp
     try simp [h_1,q_8,q_7,h_9,h_15]
     refine zah ?_
     rw [I_4_]
     exact ⟨by simp [zac,zaa,h_1,q_8,q_7,h_9,h_15],by simp [zaa,h_1,q_8,q_7,h_9,h_15]⟩
   ·try simp at h_9
    cases hp
    try simp [h_1,q_8,q_7,h_9]
    refine zal ?_
    rw [X_5_]
    exact ⟨_,rfl,by simp [zac,zaa,h_1,q_8,q_7,h_9],by simp [zaa,h_1,q_8,q_7,h_9]⟩
  ·intro out hX
   rw [X_5_] at hX
   rcases r_16 with r_16 | r_16
   ·simp only [Sum.elim_inl,Sum.elim_inr] at hX hp
    obtain ⟨σ_18,rfl,q_20,q_19⟩:=hX
    cases hp
    simp [Goal,FnEnd,h_1,q_20,q_19]
   ·simp only [Sum.elim_inl,Sum.elim_inr] at hX hp
    obtain ⟨σ_21,rfl,q_23,q_22⟩:=hX
    cases hp
    simp [Goal,FnEnd,h_1,q_23,q_22]
theorem pc43:PC Tryz.prog 43 C43:=pc_of (g:=g43) (zaj [] rfl trivial) (ent Tryz.func43) fun x y h=>w43 h

def C124:List AV→Option AV:=specP (X:=TStmt × Int × Unit) fun x=>laws_szStmt x.1 x.2.1
theorem C124_eq {a_ left} {y} (h:laws_szStmt a_ left=some y):C124 [av .shr a_,av .shr left]=some (Res.res y):=zai (x:=(a_,left,())) h
def g124:Cfg:={ P:=Tryz.prog,take:=[],keep:=[],gho:=[],ctx:=[] }
@[simp] theorem g124_s:type_of% (cfg_s (g:=g124) rfl):=cfg_s rfl
theorem w124 {a_ left} {y} (hp:laws_szStmt a_ left=some y):∃ m,callo g124 0 124 [av .shr a_,av .shr left] mem0=some (Res.res y,m):=by
 refine st0 [.tmp 4] Tryz.func124 ?_
 unfold laws_szStmt at hp
 simp [Tryz.f124]
 rcases zad hp with ⟨h_1,hp⟩|⟨h_1,hp⟩
 ·try simp at h_1
  cases hp
  simp [Goal,FnEnd,h_1]
 ·try simp at h_1
  try simp [h_1]
  rcases zad hp with ⟨h_2,hp⟩|⟨h_2,hp⟩
  ·try simp at h_2
   cases hp
   simp [Goal,FnEnd,h_1,h_2]
  ·try simp at h_2
   cases hp
   simp [Goal,FnEnd,h_1,h_2]
theorem pc124:PC Tryz.prog 124 C124:=pc_of (g:=g124) (zaj [] rfl trivial) (ent Tryz.func124) fun x y h=>w124 h

def C75:List AV→Option AV:=specP (X:=TEdge × Int × Unit) fun x=>laws_szEdge x.1 x.2.1
theorem C75_eq {a_ left} {y} (h:laws_szEdge a_ left=some y):C75 [av .shr a_,av .shr left]=some (Res.res y):=zai (x:=(a_,left,())) h
def g75:Cfg:={ P:=Tryz.prog,take:=[],keep:=[],gho:=[],ctx:=[(124,C124)] }
@[simp] theorem g75_s:type_of% (cfg_s (g:=g75) rfl):=cfg_s rfl
theorem w75 {a_ left} {y} (hp:laws_szEdge a_ left=some y):∃ m,callo g75 0 75 [av .shr a_,av .shr left] mem0=some (Res.res y,m):=by
 refine st0 [.tmp 4] Tryz.func75 ?_
 unfold laws_szEdge at hp
 obtain ⟨y_1,h_2,hp⟩:=zab hp
 have c_3:=C124_eq h_2
 simp at c_3
 simp [Tryz.f75,c_3]
 rcases zad hp with ⟨h_4,hp⟩|⟨h_4,hp⟩
 ·try simp at h_4
  cases hp
  simp [Goal,FnEnd,h_4]
 ·try simp at h_4
  cases hp
  simp [Goal,FnEnd,h_4]
theorem pc75:PC Tryz.prog 75 C75:=pc_of (g:=g75) (zaj _ g75_s.2.1 ⟨pc124,trivial⟩) (ent Tryz.func75) fun x y h=>w75 h

def C44:List AV→Option AV:=specP (X:=(List TEdge) × Int × Unit) fun x=>laws_szEdgeS x.1 x.2.1
theorem C44_eq {a_ left} {y} (h:laws_szEdgeS a_ left=some y):C44 [av .shr a_,av .shr left]=some (Res.res y):=zai (x:=(a_,left,())) h
def g44:Cfg:={ P:=Tryz.prog,take:=[],keep:=[((44,5),{ hd:=[0,1,5],bx:=[],ex:=[1],rt:=[4] })],gho:=[],ctx:=[(75,C75)] }
@[simp] theorem g44_s:type_of% (cfg_s (g:=g44) rfl):=cfg_s rfl
theorem w44 {a_ left} {y} (hp:laws_szEdgeS a_ left=some y):∃ m,callo g44 0 44 [av .shr a_,av .shr left] mem0=some (Res.res y,m):=by
 refine st0 [.tmp 4] Tryz.func44 ?_
 unfold laws_szEdgeS at hp
 simp [Tryz.f44]
 rcases zad hp with ⟨h_1,hp⟩|⟨h_1,hp⟩
 ·try simp at h_1
  cases hp
  simp [Goal,FnEnd,h_1]
 ·try simp at h_1
  try simp [h_1]
  obtain ⟨r_19,h_20,hp⟩:=zab hp
  obtain ⟨I_4,I_4_⟩:=exV fun (s_2:Int × Int) (σ:St)=>(σ.env 0=uL .shr a_∧σ.env 1=uI s_2.1∧σ.env 5=uI s_2.2)∧σ.mem=mem0
  obtain ⟨X_5,X_5_⟩:=exV fun (r_19:(Int) ⊕ (Int)) (out:Out)=>Sum.elim (fun r_19=>∃ σ:St,out=.ret σ∧σ.env 4=uI r_19∧σ.mem=mem0) (fun r_19=>∃ σ:St,out=.exit 0 σ∧σ.env 1=uI r_19∧σ.mem=mem0) r_19
  refine loopP ({ hd:=[0,1,5],bx:=[],ex:=[1],rt:=[4] }) I_4 X_5 h_20 (by exact rfl) ?_ ?_ ?_
  ·rw [I_4_]
   exact ⟨by simp [zac,zaa,h_1],by simp [zaa,h_1]⟩
  ·intro s_2 σ_6 a_3 hI hp
   rw [I_4_] at hI
   obtain ⟨q_8,q_7⟩:=hI
   try simp [h_1,q_8,q_7]
   rcases zad hp with ⟨h_9,hp⟩|⟨h_9,hp⟩
   ·try simp at h_9
    obtain ⟨e_10,h_11,hp⟩:=zab hp
    have b_12:=at_lo h_11
    have b_13:=at_hi h_11
    try simp at b_12 b_13
    have c_14:=seg_at' h_11 0 5 (by decide) (ds:=[.sc (.int .i64 e_10.from_),.sc (.int .i64 e_10.to_),.sc (.int .i64 e_10.stmt.kind),.sc (.string e_10.stmt.a),.sc (.string e_10.stmt.b)]) rfl
    try simp at c_14
    obtain ⟨y_15,h_16,hp⟩:=zab hp
    have c_17:=C75_eq h_16
    simp at c_17
    try simp [h_1,q_8,q_7,h_9,b_12,b_13,c_14,c_17]
    rcases zad hp with ⟨h_18,hp⟩|⟨h_18,hp⟩
    ·try simp at h_18
     cases hp
     try simp [h_1,q_8,q_7,h_9,h_18]
     refine zao ?_
     rw [X_5_]
     exact ⟨_,rfl,by simp [zac,zaa,h_1,q_8,q_7,h_9,h_18],by simp [zaa,h_1,q_8,q_7,h_9,h_18]⟩
    ·try simp at h_18
     cases hp
     try simp [h_1,q_8,q_7,h_9,h_18]
     refine zah ?_
     rw [I_4_]
     exact ⟨by simp [zac,zaa,h_1,q_8,q_7,h_9,h_18],by simp [zaa,h_1,q_8,q_7,h_9,h_18]⟩
   ·try simp at h_9
    cases hp
    try simp [h_1,q_8,q_7,h_9]
    refine zal ?_
    rw [X_5_]
    exact ⟨_,rfl,by simp [zac,zaa,h_1,q_8,q_7,h_9],by simp [zaa,h_1,q_8,q_7,h_9]⟩
  ·intro out hX
   rw [X_5_] at hX
   rcases r_19 with r_19 | r_19
   ·simp only [Sum.elim_inl,Sum.elim_inr] at hX hp
    obtain ⟨σ_21,rfl,q_23,q_22⟩:=hX
    cases hp
    simp [Goal,FnEnd,h_1,q_23,q_22]
   ·simp only [Sum.elim_inl,Sum.elim_inr] at hX hp
    obtain ⟨σ_24,rfl,q_26,q_25⟩:=hX
    cases hp
    simp [Goal,FnEnd,h_1,q_26,q_25]
theorem pc44:PC Tryz.prog 44 C44:=pc_of (g:=g44) (zaj _ g44_s.2.1 ⟨pc75,trivial⟩) (ent Tryz.func44) fun x y h=>w44 h

def C8:List AV→Option AV:=specP (X:=TProgram × Int × Unit) fun x=>laws_szProgram x.1 x.2.1
theorem C8_eq {a_ left} {y} (h:laws_szProgram a_ left=some y):C8 [av .shr a_,av .shr left]=some (Res.res y):=zai (x:=(a_,left,())) h
def g8:Cfg:={ P:=Tryz.prog,take:=[],keep:=[],gho:=[],ctx:=[(43,C43),(44,C44)] }
@[simp] theorem g8_s:type_of% (cfg_s (g:=g8) rfl):=cfg_s rfl
theorem w8 {a_ left} {y} (hp:laws_szProgram a_ left=some y):∃ m,callo g8 0 8 [av .shr a_,av .shr left] mem0=some (Res.res y,m):=by
 refine st0 [.tmp 4] Tryz.func8 ?_
 unfold laws_szProgram at hp
 obtain ⟨y_1,h_2,hp⟩:=zab hp
 have c_3:=C43_eq h_2
 simp at c_3
 simp [Tryz.f8,c_3]
 rcases zad hp with ⟨h_4,hp⟩|⟨h_4,hp⟩
 ·try simp at h_4
  cases hp
  simp [Goal,FnEnd,h_4]
 ·try simp at h_4
  obtain ⟨y_5,h_6,hp⟩:=zab hp
  have c_7:=C44_eq h_6
  simp at c_7
  try simp [h_4,c_7]
  rcases zad hp with ⟨h_8,hp⟩|⟨h_8,hp⟩
  ·try simp at h_8
   cases hp
   simp [Goal,FnEnd,h_4,h_8]
  ·try simp at h_8
   cases hp
   simp [Goal,FnEnd,h_4,h_8]
theorem pc8:PC Tryz.prog 8 C8:=pc_of (g:=g8) (zaj _ g8_s.2.1 ⟨pc43,pc44,trivial⟩) (ent Tryz.func8) fun x y h=>w8 h

def C45:List AV→Option AV:=specP (X:=(List Int) × Int × Unit) fun x=>laws_szIntS x.1 x.2.1
theorem C45_eq {a_ left} {y} (h:laws_szIntS a_ left=some y):C45 [av .shr a_,av .shr left]=some (Res.res y):=zai (x:=(a_,left,())) h
def g45:Cfg:={ P:=Tryz.prog,take:=[],keep:=[],gho:=[],ctx:=[] }
@[simp] theorem g45_s:type_of% (cfg_s (g:=g45) rfl):=cfg_s rfl
theorem w45 {a_ left} {y} (hp:laws_szIntS a_ left=some y):∃ m,callo g45 0 45 [av .shr a_,av .shr left] mem0=some (Res.res y,m):=by
 refine st0 [.tmp 4] Tryz.func45 ?_
 unfold laws_szIntS at hp
 simp [Tryz.f45]
 rcases zad hp with ⟨h_1,hp⟩|⟨h_1,hp⟩
 ·try simp at h_1
  cases hp
  simp [Goal,FnEnd,h_1]
 ·try simp at h_1
  cases hp
  simp [Goal,FnEnd,h_1]
theorem pc45:PC Tryz.prog 45 C45:=pc_of (g:=g45) (zaj [] rfl trivial) (ent Tryz.func45) fun x y h=>w45 h

def C9:List AV→Option AV:=specP (X:=THeap × Int × Unit) fun x=>laws_szHeap x.1 x.2.1
theorem C9_eq {a_ left} {y} (h:laws_szHeap a_ left=some y):C9 [av .shr a_,av .shr left]=some (Res.res y):=zai (x:=(a_,left,())) h
def g9:Cfg:={ P:=Tryz.prog,take:=[],keep:=[],gho:=[],ctx:=[(45,C45)] }
@[simp] theorem g9_s:type_of% (cfg_s (g:=g9) rfl):=cfg_s rfl
theorem w9 {a_ left} {y} (hp:laws_szHeap a_ left=some y):∃ m,callo g9 0 9 [av .shr a_,av .shr left] mem0=some (Res.res y,m):=by
 refine st0 [.tmp 4] Tryz.func9 ?_
 unfold laws_szHeap at hp
 obtain ⟨y_1,h_2,hp⟩:=zab hp
 have c_3:=C45_eq h_2
 simp at c_3
 simp [Tryz.f9,c_3]
 rcases zad hp with ⟨h_4,hp⟩|⟨h_4,hp⟩
 ·try simp at h_4
  cases hp
  simp [Goal,FnEnd,h_4]
 ·try simp at h_4
  obtain ⟨y_5,h_6,hp⟩:=zab hp
  have c_7:=C45_eq h_6
  simp at c_7
  try simp [h_4,c_7]
  rcases zad hp with ⟨h_8,hp⟩|⟨h_8,hp⟩
  ·try simp at h_8
   cases hp
   simp [Goal,FnEnd,h_4,h_8]
  ·try simp at h_8
   cases hp
   simp [Goal,FnEnd,h_4,h_8]
theorem pc9:PC Tryz.prog 9 C9:=pc_of (g:=g9) (zaj _ g9_s.2.1 ⟨pc45,trivial⟩) (ent Tryz.func9) fun x y h=>w9 h

def C24:List AV→Option AV:=specP (X:=(List THeap) × Int × Unit) fun x=>laws_szHeapS x.1 x.2.1
theorem C24_eq {a_ left} {y} (h:laws_szHeapS a_ left=some y):C24 [av .shr a_,av .shr left]=some (Res.res y):=zai (x:=(a_,left,())) h
def g24:Cfg:={ P:=Tryz.prog,take:=[],keep:=[((24,5),{ hd:=[0,1,5],bx:=[],ex:=[1],rt:=[4] })],gho:=[],ctx:=[(9,C9)] }
@[simp] theorem g24_s:type_of% (cfg_s (g:=g24) rfl):=cfg_s rfl
theorem w24 {a_ left} {y} (hp:laws_szHeapS a_ left=some y):∃ m,callo g24 0 24 [av .shr a_,av .shr left] mem0=some (Res.res y,m):=by
 refine st0 [.tmp 4] Tryz.func24 ?_
 unfold laws_szHeapS at hp
 simp [Tryz.f24]
 rcases zad hp with ⟨h_1,hp⟩|⟨h_1,hp⟩
 ·try simp at h_1
  cases hp
  simp [Goal,FnEnd,h_1]
 ·try simp at h_1
  try simp [h_1]
  obtain ⟨r_19,h_20,hp⟩:=zab hp
  obtain ⟨I_4,I_4_⟩:=exV fun (s_2:Int × Int) (σ:St)=>(σ.env 0=uL .shr a_∧σ.env 1=uI s_2.1∧σ.env 5=uI s_2.2)∧σ.mem=mem0
  obtain ⟨X_5,X_5_⟩:=exV fun (r_19:(Int) ⊕ (Int)) (out:Out)=>Sum.elim (fun r_19=>∃ σ:St,out=.ret σ∧σ.env 4=uI r_19∧σ.mem=mem0) (fun r_19=>∃ σ:St,out=.exit 0 σ∧σ.env 1=uI r_19∧σ.mem=mem0) r_19
  refine loopP ({ hd:=[0,1,5],bx:=[],ex:=[1],rt:=[4] }) I_4 X_5 h_20 (by exact rfl) ?_ ?_ ?_
  ·rw [I_4_]
   exact ⟨by simp [zac,zaa,h_1],by simp [zaa,h_1]⟩
  ·intro s_2 σ_6 a_3 hI hp
   rw [I_4_] at hI
   obtain ⟨q_8,q_7⟩:=hI
   try simp [h_1,q_8,q_7]
   rcases zad hp with ⟨h_9,hp⟩|⟨h_9,hp⟩
   ·try simp at h_9
    obtain ⟨e_10,h_11,hp⟩:=zab hp
    have b_12:=at_lo h_11
    have b_13:=at_hi h_11
    try simp at b_12 b_13
    have c_14:=seg_at' h_11 0 2 (by decide) (ds:=[.sl e_10.vars.length (encL e_10.vars),.sl e_10.next.length (encL e_10.next)]) rfl
    try simp at c_14
    obtain ⟨y_15,h_16,hp⟩:=zab hp
    have c_17:=C9_eq h_16
    simp at c_17
    try simp [h_1,q_8,q_7,h_9,b_12,b_13,c_14,c_17]
    rcases zad hp with ⟨h_18,hp⟩|⟨h_18,hp⟩
    ·try simp at h_18
     cases hp
     try simp [h_1,q_8,q_7,h_9,h_18]
     refine zao ?_
     rw [X_5_]
     exact ⟨_,rfl,by simp [zac,zaa,h_1,q_8,q_7,h_9,h_18],by simp [zaa,h_1,q_8,q_7,h_9,h_18]⟩
    ·try simp at h_18
     cases hp
     try simp [h_1,q_8,q_7,h_9,h_18]
     refine zah ?_
     rw [I_4_]
     exact ⟨by simp [zac,zaa,h_1,q_8,q_7,h_9,h_18],by simp [zaa,h_1,q_8,q_7,h_9,h_18]⟩
   ·try simp at h_9
    cases hp
    try simp [h_1,q_8,q_7,h_9]
    refine zal ?_
    rw [X_5_]
    exact ⟨_,rfl,by simp [zac,zaa,h_1,q_8,q_7,h_9],by simp [zaa,h_1,q_8,q_7,h_9]⟩
  ·intro out hX
   rw [X_5_] at hX
   rcases r_19 with r_19 | r_19
   ·simp only [Sum.elim_inl,Sum.elim_inr] at hX hp
    obtain ⟨σ_21,rfl,q_23,q_22⟩:=hX
    cases hp
    simp [Goal,FnEnd,h_1,q_23,q_22]
   ·simp only [Sum.elim_inl,Sum.elim_inr] at hX hp
    obtain ⟨σ_24,rfl,q_26,q_25⟩:=hX
    cases hp
    simp [Goal,FnEnd,h_1,q_26,q_25]
theorem pc24:PC Tryz.prog 24 C24:=pc_of (g:=g24) (zaj _ g24_s.2.1 ⟨pc9,trivial⟩) (ent Tryz.func24) fun x y h=>w24 h

def C51:List AV→Option AV:=specP (X:=(List ByteArray) × Unit) fun x=>laws_toStringS x.1
theorem C51_eq {a_} {y} (h:laws_toStringS a_=some y):C51 [av .shr a_]=some (Res.res y):=zai (x:=(a_,())) h
def g51:Cfg:={ P:=Tryz.prog,take:=[(51,7)],keep:=[((51,3),{ hd:=[0,3,4],bx:=[],ex:=[3],rt:=[2] })],gho:=[((51,atEnd),[.frz (.sl 2 0)])],ctx:=[] }
@[simp] theorem g51_s:type_of% (cfg_s (g:=g51) rfl):=cfg_s rfl
theorem w51 {a_} {y} (hp:laws_toStringS a_=some y):∃ m,callo g51 0 51 [av .shr a_] mem0=some (Res.res y,m):=by
 refine st0 [.tmp 2] Tryz.func51 ?_
 unfold laws_toStringS at hp
 obtain ⟨_,h_1,hp⟩:=zab hp
 have b_2:=roomI_lo h_1
 have b_3:=roomI_ok h_1
 try simp at b_2 b_3
 have r_4:=row_replicate (a_.length:Int).toNat (ByteArray.empty:ByteArray) (by rfl)
 try simp at r_4
 simp [Tryz.f51,b_2,b_3,r_4]
 obtain ⟨r_24,h_25,hp⟩:=zab hp
 obtain ⟨I_7,I_7_⟩:=exV fun (s_5:Int × (List ByteArray)) (σ:St)=>(σ.env 0=uL .shr a_∧σ.env 3=.one (.bs (1,7) s_5.2.length 1)∧σ.env 4=uI s_5.1∧σ.mem (1,7)=some (rowC s_5.2))∧NoBox [(1,7)] σ.mem
 obtain ⟨X_8,X_8_⟩:=exV fun (r_24:(List ByteArray)) (out:Out)=>∃ σ:St,out=.exit 0 σ∧(σ.env 3=.one (.bs (1,7) r_24.length 1)∧σ.mem (1,7)=some (rowC r_24))∧NoBox [(1,7)] σ.mem
 refine loopP ({ hd:=[0,3,4],bx:=[],ex:=[3],rt:=[2] }) I_7 X_8 h_25 (by exact rfl) ?_ ?_ ?_
 ·rw [I_7_]
  exact ⟨by simp [zac,zaa],NoBox.restrict (by intro k hk hb;simp at hk hb;simp [hk,hb])⟩
 ·intro s_5 σ_9 a_6 hI hp
  rw [I_7_] at hI
  obtain ⟨q_11,hn_10⟩:=hI
  try simp [q_11]
  rcases zad hp with ⟨h_12,hp⟩|⟨h_12,hp⟩
  ·try simp at h_12
   obtain ⟨e_13,h_14,hp⟩:=zab hp
   have b_15:=at_lo h_14
   have b_16:=at_hi h_14
   try simp at b_15 b_16
   have c_17:=seg_at' h_14 0 1 (by decide) (ds:=[.sc (.string e_13)]) rfl
   try simp at c_17
   obtain ⟨e_18,h_19,hp⟩:=zab hp
   have b_20:=at_lo h_19
   have b_21:=at_hi h_19
   try simp at b_20 b_21
   have c_22:=splice_row h_19 0 e_13 [(.s (.string e_13))] (by simp) rfl
   try simp at c_22
   have l_23:=row_room h_19 0 (m:=1) (by decide)
   try simp at l_23
   cases hp
   try simp [q_11,h_12,b_15,b_16,c_17,b_20,b_21,c_22,l_23]
   refine zah ?_
   rw [I_7_]
   exact ⟨by simp [zac,zaa,q_11,h_12,b_15,b_16,c_17,b_20,b_21,c_22,l_23],NoBox.restrict (by intro k hk hb;simp at hk hb;simp [hk,hb,q_11,h_12,b_15,b_16,c_17,b_20,b_21,c_22,l_23,hn_10 k (by simp [hk,hb])])⟩
  ·try simp at h_12
   cases hp
   try simp [q_11,h_12]
   refine zal ?_
   rw [X_8_]
   exact ⟨_,rfl,by simp [zac,zaa,q_11,h_12],NoBox.restrict (by intro k hk hb;simp at hk hb;simp [hk,hb,q_11,h_12,hn_10 k (by simp [hk,hb])])⟩
 ·intro out hX
  rw [X_8_] at hX
  obtain ⟨σ_26,rfl,q_28,hn_27⟩:=hX
  cases hp
  simp [Goal,FnEnd,q_28]
theorem pc51:PC Tryz.prog 51 C51:=pc_of (g:=g51) (zaj [] rfl trivial) (ent Tryz.func51) fun x y h=>w51 h

def C131:List AV→Option AV:=specP (X:=TStmt × Unit) fun x=>laws_toStmt x.1
theorem C131_eq {a_} {y} (h:laws_toStmt a_=some y):C131 [av .shr a_]=some (Res.res y):=zai (x:=(a_,())) h
def g131:Cfg:={ P:=Tryz.prog,take:=[],keep:=[],gho:=[],ctx:=[] }
@[simp] theorem g131_s:type_of% (cfg_s (g:=g131) rfl):=cfg_s rfl
theorem w131 {a_} {y} (hp:laws_toStmt a_=some y):∃ m,callo g131 0 131 [av .shr a_] mem0=some (Res.res y,m):=by
 refine st0 [.cell 2 83] Tryz.func131 ?_
 unfold laws_toStmt at hp
 cases hp
 simp [Tryz.f131,Goal,FnEnd,retR,rsrc,RSrc.val,nodupR,nodup,tupPart]
theorem pc131:PC Tryz.prog 131 C131:=pc_of (g:=g131) (zaj [] rfl trivial) (ent Tryz.func131) fun x y h=>w131 h

def C89:List AV→Option AV:=specP (X:=TEdge × Unit) fun x=>laws_toEdge x.1
theorem C89_eq {a_} {y} (h:laws_toEdge a_=some y):C89 [av .shr a_]=some (Res.res y):=zai (x:=(a_,())) h
def g89:Cfg:={ P:=Tryz.prog,take:=[],keep:=[],gho:=[],ctx:=[(131,C131)] }
@[simp] theorem g89_s:type_of% (cfg_s (g:=g89) rfl):=cfg_s rfl
theorem w89 {a_} {y} (hp:laws_toEdge a_=some y):∃ m,callo g89 0 89 [av .shr a_] mem0=some (Res.res y,m):=by
 refine st0 [.cell 2 85] Tryz.func89 ?_
 unfold laws_toEdge at hp
 obtain ⟨y_1,h_2,hp⟩:=zab hp
 have c_3:=C131_eq h_2
 simp at c_3
 cases hp
 simp [Tryz.f89,Goal,FnEnd,retR,rsrc,RSrc.val,nodupR,nodup,tupPart,c_3]
theorem pc89:PC Tryz.prog 89 C89:=pc_of (g:=g89) (zaj _ g89_s.2.1 ⟨pc131,trivial⟩) (ent Tryz.func89) fun x y h=>w89 h

def C52:List AV→Option AV:=specP (X:=(List TEdge) × Unit) fun x=>laws_toEdgeS x.1
theorem C52_eq {a_} {y} (h:laws_toEdgeS a_=some y):C52 [av .shr a_]=some (Res.res y):=zai (x:=(a_,())) h
def g52:Cfg:={ P:=Tryz.prog,take:=[(52,7)],keep:=[((52,3),{ hd:=[0,3,4],bx:=[],ex:=[3],rt:=[2] })],gho:=[((52,atEnd),[.frz (.sl 2 0)])],ctx:=[(89,C89)] }
@[simp] theorem g52_s:type_of% (cfg_s (g:=g52) rfl):=cfg_s rfl
theorem w52 {a_} {y} (hp:laws_toEdgeS a_=some y):∃ m,callo g52 0 52 [av .shr a_] mem0=some (Res.res y,m):=by
 refine st0 [.tmp 2] Tryz.func52 ?_
 unfold laws_toEdgeS at hp
 obtain ⟨_,h_1,hp⟩:=zab hp
 have b_2:=roomI_lo h_1
 have b_3:=roomI_ok h_1
 try simp at b_2 b_3
 have r_4:=row_replicate (a_.length:Int).toNat ((⟨0,0,(⟨0,ByteArray.empty,ByteArray.empty⟩:TStmt)⟩:TEdge):TEdge) (by rfl)
 try simp at r_4
 simp [Tryz.f52,b_2,b_3,r_4]
 obtain ⟨r_27,h_28,hp⟩:=zab hp
 obtain ⟨I_7,I_7_⟩:=exV fun (s_5:Int × (List TEdge)) (σ:St)=>(σ.env 0=uL .shr a_∧σ.env 3=.one (.bs (1,7) s_5.2.length 5)∧σ.env 4=uI s_5.1∧σ.mem (1,7)=some (rowC s_5.2))∧NoBox [(1,7)] σ.mem
 obtain ⟨X_8,X_8_⟩:=exV fun (r_27:(List TEdge)) (out:Out)=>∃ σ:St,out=.exit 0 σ∧(σ.env 3=.one (.bs (1,7) r_27.length 5)∧σ.mem (1,7)=some (rowC r_27))∧NoBox [(1,7)] σ.mem
 refine loopP ({ hd:=[0,3,4],bx:=[],ex:=[3],rt:=[2] }) I_7 X_8 h_28 (by exact rfl) ?_ ?_ ?_
 ·rw [I_7_]
  exact ⟨by simp [zac,zaa],NoBox.restrict (by intro k hk hb;simp at hk hb;simp [hk,hb])⟩
 ·intro s_5 σ_9 a_6 hI hp
  rw [I_7_] at hI
  obtain ⟨q_11,hn_10⟩:=hI
  try simp [q_11]
  rcases zad hp with ⟨h_12,hp⟩|⟨h_12,hp⟩
  ·try simp at h_12
   obtain ⟨e_13,h_14,hp⟩:=zab hp
   have b_15:=at_lo h_14
   have b_16:=at_hi h_14
   try simp at b_15 b_16
   have c_17:=seg_at' h_14 0 5 (by decide) (ds:=[.sc (.int .i64 e_13.from_),.sc (.int .i64 e_13.to_),.sc (.int .i64 e_13.stmt.kind),.sc (.string e_13.stmt.a),.sc (.string e_13.stmt.b)]) rfl
   try simp at c_17
   obtain ⟨y_18,h_19,hp⟩:=zab hp
   have c_20:=C89_eq h_19
   simp at c_20
   obtain ⟨e_21,h_22,hp⟩:=zab hp
   have b_23:=at_lo h_22
   have b_24:=at_hi h_22
   try simp at b_23 b_24
   have c_25:=splice_row h_22 0 y_18 [(cI y_18.from_),(cI y_18.to_),(cI y_18.stmt.kind),(.s (.string y_18.stmt.a)),(.s (.string y_18.stmt.b))] (by simp) rfl
   try simp at c_25
   have l_26:=row_room h_22 0 (m:=5) (by decide)
   try simp at l_26
   cases hp
   try simp [q_11,h_12,b_15,b_16,c_17,c_20,b_23,b_24,c_25,l_26]
   refine zah ?_
   rw [I_7_]
   exact ⟨by simp [zac,zaa,q_11,h_12,b_15,b_16,c_17,c_20,b_23,b_24,c_25,l_26],NoBox.restrict (by intro k hk hb;simp at hk hb;simp [hk,hb,q_11,h_12,b_15,b_16,c_17,c_20,b_23,b_24,c_25,l_26,hn_10 k (by simp [hk,hb])])⟩
  ·try simp at h_12
   cases hp
   try simp [q_11,h_12]
   refine zal ?_
   rw [X_8_]
   exact ⟨_,rfl,by simp [zac,zaa,q_11,h_12],NoBox.restrict (by intro k hk hb;simp at hk hb;simp [hk,hb,q_11,h_12,hn_10 k (by simp [hk,hb])])⟩
 ·intro out hX
  rw [X_8_] at hX
  obtain ⟨σ_29,rfl,q_31,hn_30⟩:=hX
  cases hp
  simp [Goal,FnEnd,q_31]
theorem pc52:PC Tryz.prog 52 C52:=pc_of (g:=g52) (zaj _ g52_s.2.1 ⟨pc89,trivial⟩) (ent Tryz.func52) fun x y h=>w52 h

def C11:List AV→Option AV:=specP (X:=TProgram × Unit) fun x=>laws_toProgram x.1
theorem C11_eq {a_} {y} (h:laws_toProgram a_=some y):C11 [av .shr a_]=some (Res.res y):=zai (x:=(a_,())) h
def g11:Cfg:={ P:=Tryz.prog,take:=[(11,15)],keep:=[],gho:=[],ctx:=[(51,C51),(52,C52)] }
@[simp] theorem g11_s:type_of% (cfg_s (g:=g11) rfl):=cfg_s rfl
theorem w11 {a_} {y} (hp:laws_toProgram a_=some y):∃ m,callo g11 0 11 [av .shr a_] mem0=some (Res.res y,m):=by
 refine st0 [.cell 2 38] Tryz.func11 ?_
 unfold laws_toProgram at hp
 obtain ⟨y_1,h_2,hp⟩:=zab hp
 have c_3:=C51_eq h_2
 simp at c_3
 obtain ⟨y_4,h_5,hp⟩:=zab hp
 have c_6:=C52_eq h_5
 simp at c_6
 cases hp
 simp [Tryz.f11,Goal,FnEnd,retR,rsrc,RSrc.val,nodupR,nodup,tupPart,c_3,c_6]
theorem pc11:PC Tryz.prog 11 C11:=pc_of (g:=g11) (zaj _ g11_s.2.1 ⟨pc51,pc52,trivial⟩) (ent Tryz.func11) fun x y h=>w11 h

def C13:List AV→Option AV:=specP (X:=(List Int) × Unit) fun x=>laws_toIntS x.1
theorem C13_eq {a_} {y} (h:laws_toIntS a_=some y):C13 [av .shr a_]=some (Res.res y):=zai (x:=(a_,())) h
def g13:Cfg:={ P:=Tryz.prog,take:=[(13,7)],keep:=[((13,3),{ hd:=[0,3,4],bx:=[],ex:=[3],rt:=[2] })],gho:=[((13,atEnd),[.frz (.sl 2 0)])],ctx:=[] }
@[simp] theorem g13_s:type_of% (cfg_s (g:=g13) rfl):=cfg_s rfl
theorem w13 {a_} {y} (hp:laws_toIntS a_=some y):∃ m,callo g13 0 13 [av .shr a_] mem0=some (Res.res y,m):=by
 refine st0 [.tmp 2] Tryz.func13 ?_
 unfold laws_toIntS at hp
 obtain ⟨_,h_1,hp⟩:=zab hp
 have b_2:=roomI_lo h_1
 have b_3:=roomI_ok h_1
 try simp at b_2 b_3
 have r_4:=row_replicate (a_.length:Int).toNat (0:Int) (by rfl)
 try simp at r_4
 simp [Tryz.f13,b_2,b_3,r_4]
 obtain ⟨r_24,h_25,hp⟩:=zab hp
 obtain ⟨I_7,I_7_⟩:=exV fun (s_5:Int × (List Int)) (σ:St)=>(σ.env 0=uL .shr a_∧σ.env 3=.one (.bs (1,7) s_5.2.length 1)∧σ.env 4=uI s_5.1∧σ.mem (1,7)=some (rowC s_5.2))∧NoBox [(1,7)] σ.mem
 obtain ⟨X_8,X_8_⟩:=exV fun (r_24:(List Int)) (out:Out)=>∃ σ:St,out=.exit 0 σ∧(σ.env 3=.one (.bs (1,7) r_24.length 1)∧σ.mem (1,7)=some (rowC r_24))∧NoBox [(1,7)] σ.mem
 refine loopP ({ hd:=[0,3,4],bx:=[],ex:=[3],rt:=[2] }) I_7 X_8 h_25 (by exact rfl) ?_ ?_ ?_
 ·rw [I_7_]
  exact ⟨by simp [zac,zaa],NoBox.restrict (by intro k hk hb;simp at hk hb;simp [hk,hb])⟩
 ·intro s_5 σ_9 a_6 hI hp
  rw [I_7_] at hI
  obtain ⟨q_11,hn_10⟩:=hI
  try simp [q_11]
  rcases zad hp with ⟨h_12,hp⟩|⟨h_12,hp⟩
  ·try simp at h_12
   obtain ⟨e_13,h_14,hp⟩:=zab hp
   have b_15:=at_lo h_14
   have b_16:=at_hi h_14
   try simp at b_15 b_16
   have c_17:=seg_at' h_14 0 1 (by decide) (ds:=[.sc (.int .i64 e_13)]) rfl
   try simp at c_17
   obtain ⟨e_18,h_19,hp⟩:=zab hp
   have b_20:=at_lo h_19
   have b_21:=at_hi h_19
   try simp at b_20 b_21
   have c_22:=splice_row h_19 0 e_13 [(cI e_13)] (by simp) rfl
   try simp at c_22
   have l_23:=row_room h_19 0 (m:=1) (by decide)
   try simp at l_23
   cases hp
   try simp [q_11,h_12,b_15,b_16,c_17,b_20,b_21,c_22,l_23]
   refine zah ?_
   rw [I_7_]
   exact ⟨by simp [zac,zaa,q_11,h_12,b_15,b_16,c_17,b_20,b_21,c_22,l_23],NoBox.restrict (by intro k hk hb;simp at hk hb;simp [hk,hb,q_11,h_12,b_15,b_16,c_17,b_20,b_21,c_22,l_23,hn_10 k (by simp [hk,hb])])⟩
  ·try simp at h_12
   cases hp
   try simp [q_11,h_12]
   refine zal ?_
   rw [X_8_]
   exact ⟨_,rfl,by simp [zac,zaa,q_11,h_12],NoBox.restrict (by intro k hk hb;simp at hk hb;simp [hk,hb,q_11,h_12,hn_10 k (by simp [hk,hb])])⟩
 ·intro out hX
  rw [X_8_] at hX
  obtain ⟨σ_26,rfl,q_28,hn_27⟩:=hX
  cases hp
  simp [Goal,FnEnd,q_28]
theorem pc13:PC Tryz.prog 13 C13:=pc_of (g:=g13) (zaj [] rfl trivial) (ent Tryz.func13) fun x y h=>w13 h

def C12:List AV→Option AV:=specP (X:=THeap × Unit) fun x=>laws_toHeap x.1
theorem C12_eq {a_} {y} (h:laws_toHeap a_=some y):C12 [av .shr a_]=some (Res.res y):=zai (x:=(a_,())) h
def g12:Cfg:={ P:=Tryz.prog,take:=[(12,12)],keep:=[],gho:=[],ctx:=[(13,C13)] }
@[simp] theorem g12_s:type_of% (cfg_s (g:=g12) rfl):=cfg_s rfl
theorem w12 {a_} {y} (hp:laws_toHeap a_=some y):∃ m,callo g12 0 12 [av .shr a_] mem0=some (Res.res y,m):=by
 refine st0 [.cell 2 31] Tryz.func12 ?_
 unfold laws_toHeap at hp
 obtain ⟨y_1,h_2,hp⟩:=zab hp
 have c_3:=C13_eq h_2
 simp at c_3
 obtain ⟨y_4,h_5,hp⟩:=zab hp
 have c_6:=C13_eq h_5
 simp at c_6
 cases hp
 simp [Tryz.f12,Goal,FnEnd,retR,rsrc,RSrc.val,nodupR,nodup,tupPart,c_3,c_6]
theorem pc12:PC Tryz.prog 12 C12:=pc_of (g:=g12) (zaj _ g12_s.2.1 ⟨pc13,trivial⟩) (ent Tryz.func12) fun x y h=>w12 h

def C26:List AV→Option AV:=specP (X:=(List THeap) × Unit) fun x=>laws_toHeapS x.1
theorem C26_eq {a_} {y} (h:laws_toHeapS a_=some y):C26 [av .shr a_]=some (Res.res y):=zai (x:=(a_,())) h
def g26:Cfg:={ P:=Tryz.prog,take:=[(26,7)],keep:=[((26,3),{ hd:=[0,3,4],bx:=[],ex:=[3],rt:=[2] })],gho:=[((26,atEnd),[.frz (.sl 2 0)])],ctx:=[(12,C12)] }
@[simp] theorem g26_s:type_of% (cfg_s (g:=g26) rfl):=cfg_s rfl
theorem w26 {a_} {y} (hp:laws_toHeapS a_=some y):∃ m,callo g26 0 26 [av .shr a_] mem0=some (Res.res y,m):=by
 refine st0 [.tmp 2] Tryz.func26 ?_
 unfold laws_toHeapS at hp
 obtain ⟨_,h_1,hp⟩:=zab hp
 have b_2:=roomI_lo h_1
 have b_3:=roomI_ok h_1
 try simp at b_2 b_3
 have r_4:=row_replicate (a_.length:Int).toNat ((⟨[],[]⟩:THeap):THeap) (by rfl)
 try simp at r_4
 simp [Tryz.f26,b_2,b_3,r_4]
 obtain ⟨r_27,h_28,hp⟩:=zab hp
 obtain ⟨I_7,I_7_⟩:=exV fun (s_5:Int × (List THeap)) (σ:St)=>(σ.env 0=uL .shr a_∧σ.env 3=.one (.bs (1,7) s_5.2.length 2)∧σ.env 4=uI s_5.1∧σ.mem (1,7)=some (rowC s_5.2))∧NoBox [(1,7)] σ.mem
 obtain ⟨X_8,X_8_⟩:=exV fun (r_27:(List THeap)) (out:Out)=>∃ σ:St,out=.exit 0 σ∧(σ.env 3=.one (.bs (1,7) r_27.length 2)∧σ.mem (1,7)=some (rowC r_27))∧NoBox [(1,7)] σ.mem
 refine loopP ({ hd:=[0,3,4],bx:=[],ex:=[3],rt:=[2] }) I_7 X_8 h_28 (by exact rfl) ?_ ?_ ?_
 ·rw [I_7_]
  exact ⟨by simp [zac,zaa],NoBox.restrict (by intro k hk hb;simp at hk hb;simp [hk,hb])⟩
 ·intro s_5 σ_9 a_6 hI hp
  rw [I_7_] at hI
  obtain ⟨q_11,hn_10⟩:=hI
  try simp [q_11]
  rcases zad hp with ⟨h_12,hp⟩|⟨h_12,hp⟩
  ·try simp at h_12
   obtain ⟨e_13,h_14,hp⟩:=zab hp
   have b_15:=at_lo h_14
   have b_16:=at_hi h_14
   try simp at b_15 b_16
   have c_17:=seg_at' h_14 0 2 (by decide) (ds:=[.sl e_13.vars.length (encL e_13.vars),.sl e_13.next.length (encL e_13.next)]) rfl
   try simp at c_17
   obtain ⟨y_18,h_19,hp⟩:=zab hp
   have c_20:=C12_eq h_19
   simp at c_20
   obtain ⟨e_21,h_22,hp⟩:=zab hp
   have b_23:=at_lo h_22
   have b_24:=at_hi h_22
   try simp at b_23 b_24
   have c_25:=splice_row h_22 0 y_18 [(cL .own y_18.vars),(cL .own y_18.next)] (by simp) rfl
   try simp at c_25
   have l_26:=row_room h_22 0 (m:=2) (by decide)
   try simp at l_26
   cases hp
   try simp [q_11,h_12,b_15,b_16,c_17,c_20,b_23,b_24,c_25,l_26]
   refine zah ?_
   rw [I_7_]
   exact ⟨by simp [zac,zaa,q_11,h_12,b_15,b_16,c_17,c_20,b_23,b_24,c_25,l_26],NoBox.restrict (by intro k hk hb;simp at hk hb;simp [hk,hb,q_11,h_12,b_15,b_16,c_17,c_20,b_23,b_24,c_25,l_26,hn_10 k (by simp [hk,hb])])⟩
  ·try simp at h_12
   cases hp
   try simp [q_11,h_12]
   refine zal ?_
   rw [X_8_]
   exact ⟨_,rfl,by simp [zac,zaa,q_11,h_12],NoBox.restrict (by intro k hk hb;simp at hk hb;simp [hk,hb,q_11,h_12,hn_10 k (by simp [hk,hb])])⟩
 ·intro out hX
  rw [X_8_] at hX
  obtain ⟨σ_29,rfl,q_31,hn_30⟩:=hX
  cases hp
  simp [Goal,FnEnd,q_31]
theorem pc26:PC Tryz.prog 26 C26:=pc_of (g:=g26) (zaj _ g26_s.2.1 ⟨pc12,trivial⟩) (ent Tryz.func26) fun x y h=>w26 h

def C41:List AV→Option AV:=specP (X:=TAlarm × Unit) fun x=>laws_toAlarm x.1
theorem C41_eq {a_} {y} (h:laws_toAlarm a_=some y):C41 [av .shr a_]=some (Res.res y):=zai (x:=(a_,())) h
def g41:Cfg:={ P:=Tryz.prog,take:=[],keep:=[],gho:=[],ctx:=[] }
@[simp] theorem g41_s:type_of% (cfg_s (g:=g41) rfl):=cfg_s rfl
theorem w41 {a_} {y} (hp:laws_toAlarm a_=some y):∃ m,callo g41 0 41 [av .shr a_] mem0=some (Res.res y,m):=by
 refine st0 [.cell 2 73] Tryz.func41 ?_
 unfold laws_toAlarm at hp
 cases hp
 simp [Tryz.f41,Goal,FnEnd,retR,rsrc,RSrc.val,nodupR,nodup,tupPart]
theorem pc41:PC Tryz.prog 41 C41:=pc_of (g:=g41) (zaj [] rfl trivial) (ent Tryz.func41) fun x y h=>w41 h

def C49:List AV→Option AV:=specP (X:=Int × Int × Int × Unit) fun x=>spec_l1In x.1 x.2.1 x.2.2.1
theorem C49_eq {x_ lo hi} {y} (h:spec_l1In x_ lo hi=some y):C49 [av .shr x_,av .shr lo,av .shr hi]=some (Res.res y):=zai (x:=(x_,lo,hi,())) h
def g49:Cfg:={ P:=Tryz.prog,take:=[],keep:=[],gho:=[],ctx:=[] }
@[simp] theorem g49_s:type_of% (cfg_s (g:=g49) rfl):=cfg_s rfl
theorem w49 {x_ lo hi} {y} (hp:spec_l1In x_ lo hi=some y):∃ m,callo g49 0 49 [av .shr x_,av .shr lo,av .shr hi] mem0=some (Res.res y,m):=by
 refine st0 [.tmp 6] Tryz.func49 ?_
 unfold spec_l1In at hp
 simp [Tryz.f49]
 rcases zad hp with ⟨h_1,hp⟩|⟨h_1,hp⟩
 ·try simp at h_1
  cases hp
  simp [Goal,FnEnd,h_1]
 ·try simp at h_1
  cases hp
  simp [Goal,FnEnd,h_1]
theorem pc49:PC Tryz.prog 49 C49:=pc_of (g:=g49) (zaj [] rfl trivial) (ent Tryz.func49) fun x y h=>w49 h

def C125:List AV→Option AV:=specP (X:=Int × Unit) fun x=>spec_NamesOf x.1
theorem C125_eq {kind} {y} (h:spec_NamesOf kind=some y):C125 [av .shr kind]=some (Res.res y):=zai (x:=(kind,())) h
def g125:Cfg:={ P:=Tryz.prog,take:=[],keep:=[],gho:=[],ctx:=[] }
@[simp] theorem g125_s:type_of% (cfg_s (g:=g125) rfl):=cfg_s rfl
theorem w125 {kind} {y} (hp:spec_NamesOf kind=some y):∃ m,callo g125 0 125 [av .shr kind] mem0=some (Res.res y,m):=by
 refine st0 [.tmp 2] Tryz.func125 ?_
 unfold spec_NamesOf at hp
 simp [Tryz.f125]
 rcases zad hp with ⟨h_1,hp⟩|⟨h_1,hp⟩
 ·try simp at h_1
  cases hp
  simp [Goal,FnEnd,h_1]
 ·try simp at h_1
  try simp [h_1]
  rcases zad hp with ⟨h_2,hp⟩|⟨h_2,hp⟩
  ·try simp at h_2
   cases hp
   simp [Goal,FnEnd,h_1,h_2]
  ·try simp at h_2
   try simp [h_1,h_2]
   rcases zad hp with ⟨h_3,hp⟩|⟨h_3,hp⟩
   ·try simp at h_3
    cases hp
    simp [Goal,FnEnd,h_1,h_2,h_3]
   ·try simp at h_3
    try simp [h_1,h_2,h_3]
    rcases zad hp with ⟨h_4,hp⟩|⟨h_4,hp⟩
    ·try simp at h_4
     cases hp
     simp [Goal,FnEnd,h_1,h_2,h_3,h_4]
    ·try simp at h_4
     try simp [h_1,h_2,h_3,h_4]
     rcases zad hp with ⟨h_5,hp⟩|⟨h_5,hp⟩
     ·try simp at h_5
      cases hp
      simp [Goal,FnEnd,h_1,h_2,h_3,h_4,h_5]
     ·try simp at h_5
      try simp [h_1,h_2,h_3,h_4,h_5]
      rcases zad hp with ⟨h_6,hp⟩|⟨h_6,hp⟩
      ·try simp at h_6
       cases hp
       simp [Goal,FnEnd,h_1,h_2,h_3,h_4,h_5,h_6]
      ·try simp at h_6
       try simp [h_1,h_2,h_3,h_4,h_5,h_6]
       rcases zad hp with ⟨h_7,hp⟩|⟨h_7,hp⟩
       ·try simp at h_7
        cases hp
        simp [Goal,FnEnd,h_1,h_2,h_3,h_4,h_5,h_6,h_7]
       ·try simp at h_7
        try simp [h_1,h_2,h_3,h_4,h_5,h_6,h_7]
        rcases zad hp with ⟨h_8,hp⟩|⟨h_8,hp⟩
        ·try simp at h_8
         cases hp
         simp [Goal,FnEnd,h_1,h_2,h_3,h_4,h_5,h_6,h_7,h_8]
        ·try simp at h_8
         try simp [h_1,h_2,h_3,h_4,h_5,h_6,h_7,h_8]
         rcases zad hp with ⟨h_9,hp⟩|⟨h_9,hp⟩
         ·try simp at h_9
          cases hp
          simp [Goal,FnEnd,h_1,h_2,h_3,h_4,h_5,h_6,h_7,h_8,h_9]
         ·try simp at h_9
          try simp [h_1,h_2,h_3,h_4,h_5,h_6,h_7,h_8,h_9]
          rcases zad hp with ⟨h_10,hp⟩|⟨h_10,hp⟩
          ·try simp at h_10
           cases hp
           simp [Goal,FnEnd,h_1,h_2,h_3,h_4,h_5,h_6,h_7,h_8,h_9,h_10]
          ·try simp at h_10
           try simp [h_1,h_2,h_3,h_4,h_5,h_6,h_7,h_8,h_9,h_10]
           rcases zad hp with ⟨h_11,hp⟩|⟨h_11,hp⟩
           ·try simp at h_11
            cases hp
            simp [Goal,FnEnd,h_1,h_2,h_3,h_4,h_5,h_6,h_7,h_8,h_9,h_10,h_11]
           ·try simp at h_11
            try simp [h_1,h_2,h_3,h_4,h_5,h_6,h_7,h_8,h_9,h_10,h_11]
            rcases zad hp with ⟨h_12,hp⟩|⟨h_12,hp⟩
            ·try simp at h_12
             cases hp
             simp [Goal,FnEnd,h_1,h_2,h_3,h_4,h_5,h_6,h_7,h_8,h_9,h_10,h_11,h_12]
            ·try simp at h_12
             cases hp
             simp [Goal,FnEnd,h_1,h_2,h_3,h_4,h_5,h_6,h_7,h_8,h_9,h_10,h_11,h_12]
theorem pc125:PC Tryz.prog 125 C125:=pc_of (g:=g125) (zaj [] rfl trivial) (ent Tryz.func125) fun x y h=>w125 h

def C126:List AV→Option AV:=specP (X:=ByteArray × Unit) fun x=>spec_IsName x.1
theorem C126_eq {s} {y} (h:spec_IsName s=some y):C126 [av .shr s]=some (Res.res y):=zai (x:=(s,())) h
def g126:Cfg:={ P:=Tryz.prog,take:=[],keep:=[((126,2),{ hd:=[0,3],bx:=[],ex:=[0],rt:=[2] })],gho:=[],ctx:=[(49,C49)] }
@[simp] theorem g126_s:type_of% (cfg_s (g:=g126) rfl):=cfg_s rfl
theorem w126 {s} {y} (hp:spec_IsName s=some y):∃ m,callo g126 0 126 [av .shr s] mem0=some (Res.res y,m):=by
 refine st0 [.tmp 2] Tryz.func126 ?_
 unfold spec_IsName at hp
 simp [Tryz.f126]
 obtain ⟨r_15,h_16,hp⟩:=zab hp
 obtain ⟨I_3,I_3_⟩:=exV fun (s_1:Int) (σ:St)=>(σ.env 0=.one (.s (.string s))∧σ.env 3=uI s_1)∧σ.mem=mem0
 obtain ⟨X_4,X_4_⟩:=exV fun (r_15:(Unit) ⊕ (Unit)) (out:Out)=>Sum.elim (fun r_15=>∃ σ:St,out=.ret σ∧σ.env 2=uB false∧σ.mem=mem0) (fun r_15=>∃ σ:St,out=.exit 0 σ∧σ.env 0=.one (.s (.string s))∧σ.mem=mem0) r_15
 refine loopP ({ hd:=[0,3],bx:=[],ex:=[0],rt:=[2] }) I_3 X_4 h_16 (by exact rfl) ?_ ?_ ?_
 ·rw [I_3_]
  exact ⟨by simp [zac,zaa],by simp [zaa]⟩
 ·intro s_1 σ_5 a_2 hI hp
  rw [I_3_] at hI
  obtain ⟨q_7,q_6⟩:=hI
  try simp [q_7,q_6]
  rcases zad hp with ⟨h_8,hp⟩|⟨h_8,hp⟩
  ·try simp at h_8
   obtain ⟨e_9,h_10,hp⟩:=zab hp
   have c_11:=idx_str Tryz.underlying9 h_10
   try simp [q_7,q_6,h_8,c_11]
   rcases zad hp with ⟨h_12,hp⟩|⟨h_12,hp⟩
   ·try simp at h_12
    cases hp
    try simp [q_7,q_6,h_8,h_12]
    refine zao ?_
    rw [X_4_]
    exact ⟨_,rfl,by simp [zac,zaa,q_7,q_6,h_8,h_12],by simp [zaa,q_7,q_6,h_8,h_12]⟩
   ·try simp at h_12
    obtain ⟨_,h_13,hp⟩:=zab hp
    cases Option.some.inj (h_10.symm.trans h_13)
    try simp [q_7,q_6,h_8,h_12,c_11]
    rcases zad hp with ⟨h_14,hp⟩|⟨h_14,hp⟩
    ·try simp at h_14
     cases hp
     try simp [q_7,q_6,h_8,h_12,h_14]
     refine zao ?_
     rw [X_4_]
     exact ⟨_,rfl,by simp [zac,zaa,q_7,q_6,h_8,h_12,h_14],by simp [zaa,q_7,q_6,h_8,h_12,h_14]⟩
    ·try simp at h_14
     cases hp
     try simp [q_7,q_6,h_8,h_12,h_14]
     refine zah ?_
     rw [I_3_]
     exact ⟨by simp [zac,zaa,q_7,q_6,h_8,h_12,h_14],by simp [zaa,q_7,q_6,h_8,h_12,h_14]⟩
  ·try simp at h_8
   cases hp
   try simp [q_7,q_6,h_8]
   refine zal ?_
   rw [X_4_]
   exact ⟨_,rfl,by simp [zac,zaa,q_7,q_6,h_8],by simp [zaa,q_7,q_6,h_8]⟩
 ·intro out hX
  rw [X_4_] at hX
  rcases r_15 with r_15 | r_15
  ·simp only [Sum.elim_inl,Sum.elim_inr] at hX hp
   obtain ⟨σ_17,rfl,q_19,q_18⟩:=hX
   cases hp
   simp [Goal,FnEnd,q_19,q_18]
  ·simp only [Sum.elim_inl,Sum.elim_inr] at hX hp
   obtain ⟨σ_20,rfl,q_22,q_21⟩:=hX
   obtain ⟨y_23,h_24,hp⟩:=zab hp
   have c_25:=C49_eq h_24
   simp at c_25
   cases hp
   simp [Goal,FnEnd,q_22,q_21,c_25]
theorem pc126:PC Tryz.prog 126 C126:=pc_of (g:=g126) (zaj _ g126_s.2.1 ⟨pc49,trivial⟩) (ent Tryz.func126) fun x y h=>w126 h

def C82:List AV→Option AV:=specP (X:=(List ByteArray) × ByteArray × Unit) fun x=>spec_IndexOf x.1 x.2.1
theorem C82_eq {list s} {y} (h:spec_IndexOf list s=some y):C82 [av .shr list,av .shr s]=some (Res.res y):=zai (x:=(list,s,())) h
def g82:Cfg:={ P:=Tryz.prog,take:=[],keep:=[((82,2),{ hd:=[0,1,5],bx:=[],ex:=[],rt:=[4] })],gho:=[],ctx:=[] }
@[simp] theorem g82_s:type_of% (cfg_s (g:=g82) rfl):=cfg_s rfl
theorem w82 {list s} {y} (hp:spec_IndexOf list s=some y):∃ m,callo g82 0 82 [av .shr list,av .shr s] mem0=some (Res.res y,m):=by
 refine st0 [.tmp 4] Tryz.func82 ?_
 unfold spec_IndexOf at hp
 simp [Tryz.f82]
 obtain ⟨r_15,h_16,hp⟩:=zab hp
 obtain ⟨I_3,I_3_⟩:=exV fun (s_1:Int) (σ:St)=>(σ.env 0=uL .shr list∧σ.env 1=.one (.s (.string s))∧σ.env 5=uI s_1)∧σ.mem=mem0
 obtain ⟨X_4,X_4_⟩:=exV fun (r_15:(Int) ⊕ (Unit)) (out:Out)=>Sum.elim (fun r_15=>∃ σ:St,out=.ret σ∧σ.env 4=uI r_15∧σ.mem=mem0) (fun r_15=>∃ σ:St,out=.exit 0 σ∧σ.mem=mem0) r_15
 refine loopP ({ hd:=[0,1,5],bx:=[],ex:=[],rt:=[4] }) I_3 X_4 h_16 (by exact rfl) ?_ ?_ ?_
 ·rw [I_3_]
  exact ⟨by simp [zac,zaa],by simp [zaa]⟩
 ·intro s_1 σ_5 a_2 hI hp
  rw [I_3_] at hI
  obtain ⟨q_7,q_6⟩:=hI
  try simp [q_7,q_6]
  rcases zad hp with ⟨h_8,hp⟩|⟨h_8,hp⟩
  ·try simp at h_8
   obtain ⟨e_9,h_10,hp⟩:=zab hp
   have b_11:=at_lo h_10
   have b_12:=at_hi h_10
   try simp at b_11 b_12
   have c_13:=seg_at' h_10 0 1 (by decide) (ds:=[.sc (.string e_9)]) rfl
   try simp at c_13
   try simp [q_7,q_6,h_8,b_11,b_12,c_13]
   rcases zad hp with ⟨h_14,hp⟩|⟨h_14,hp⟩
   ·try simp at h_14
    cases hp
    try simp [q_7,q_6,h_8,h_14]
    refine zao ?_
    rw [X_4_]
    exact ⟨_,rfl,by simp [zac,zaa,q_7,q_6,h_8,h_14],by simp [zaa,q_7,q_6,h_8,h_14]⟩
   ·try simp at h_14
    cases hp
    try simp [q_7,q_6,h_8,h_14]
    refine zah ?_
    rw [I_3_]
    exact ⟨by simp [zac,zaa,q_7,q_6,h_8,h_14],by simp [zaa,q_7,q_6,h_8,h_14]⟩
  ·try simp at h_8
   cases hp
   try simp [q_7,q_6,h_8]
   refine zal ?_
   rw [X_4_]
   exact ⟨_,rfl,by simp [zaa,q_7,q_6,h_8]⟩
 ·intro out hX
  rw [X_4_] at hX
  rcases r_15 with r_15 | r_15
  ·simp only [Sum.elim_inl,Sum.elim_inr] at hX hp
   obtain ⟨σ_17,rfl,q_19,q_18⟩:=hX
   cases hp
   simp [Goal,FnEnd,q_19,q_18]
  ·simp only [Sum.elim_inl,Sum.elim_inr] at hX hp
   obtain ⟨σ_20,rfl,q_21⟩:=hX
   cases hp
   simp [Goal,FnEnd,q_21]
theorem pc82:PC Tryz.prog 82 C82:=pc_of (g:=g82) (zaj [] rfl trivial) (ent Tryz.func82) fun x y h=>w82 h

def C77:List AV→Option AV:=specP (X:=(List ByteArray) × Unit) fun x=>spec_AreVars x.1
theorem C77_eq {list} {y} (h:spec_AreVars list=some y):C77 [av .shr list]=some (Res.res y):=zai (x:=(list,())) h
def g77:Cfg:={ P:=Tryz.prog,take:=[],keep:=[((77,2),{ hd:=[0,3],bx:=[],ex:=[0],rt:=[2] })],gho:=[],ctx:=[(49,C49),(82,C82),(126,C126)] }
@[simp] theorem g77_s:type_of% (cfg_s (g:=g77) rfl):=cfg_s rfl
theorem w77 {list} {y} (hp:spec_AreVars list=some y):∃ m,callo g77 0 77 [av .shr list] mem0=some (Res.res y,m):=by
 refine st0 [.tmp 2] Tryz.func77 ?_
 unfold spec_AreVars at hp
 simp [Tryz.f77]
 obtain ⟨r_27,h_28,hp⟩:=zab hp
 obtain ⟨I_3,I_3_⟩:=exV fun (s_1:Int) (σ:St)=>(σ.env 0=uL .shr list∧σ.env 3=uI s_1)∧σ.mem=mem0
 obtain ⟨X_4,X_4_⟩:=exV fun (r_27:(Unit) ⊕ (Unit)) (out:Out)=>Sum.elim (fun r_27=>∃ σ:St,out=.ret σ∧σ.env 2=uB false∧σ.mem=mem0) (fun r_27=>∃ σ:St,out=.exit 0 σ∧σ.env 0=uL .shr list∧σ.mem=mem0) r_27
 refine loopP ({ hd:=[0,3],bx:=[],ex:=[0],rt:=[2] }) I_3 X_4 h_28 (by exact rfl) ?_ ?_ ?_
 ·rw [I_3_]
  exact ⟨by simp [zac,zaa],by simp [zaa]⟩
 ·intro s_1 σ_5 a_2 hI hp
  rw [I_3_] at hI
  obtain ⟨q_7,q_6⟩:=hI
  try simp [q_7,q_6]
  rcases zad hp with ⟨h_8,hp⟩|⟨h_8,hp⟩
  ·try simp at h_8
   obtain ⟨e_9,h_10,hp⟩:=zab hp
   have b_11:=at_lo h_10
   have b_12:=at_hi h_10
   try simp at b_11 b_12
   have c_13:=seg_at' h_10 0 1 (by decide) (ds:=[.sc (.string e_9)]) rfl
   try simp at c_13
   obtain ⟨y_14,h_15,hp⟩:=zab hp
   have c_16:=C126_eq h_15
   simp at c_16
   try simp [q_7,q_6,h_8,b_11,b_12,c_13,c_16]
   rcases zad hp with ⟨h_17,hp⟩|⟨h_17,hp⟩
   ·try simp at h_17
    obtain ⟨e_18,h_19,hp⟩:=zab hp
    cases Option.some.inj (h_10.symm.trans h_19)
    have b_20:=at_lo h_10
    have b_21:=at_hi h_10
    try simp at b_20 b_21
    have c_22:=seg_at' h_10 0 1 (by decide) (ds:=[.sc (.string e_9)]) rfl
    try simp at c_22
    obtain ⟨y_23,h_24,hp⟩:=zab hp
    have c_25:=C82_eq h_24
    simp at c_25
    try simp [q_7,q_6,h_8,h_17,b_20,b_21,c_22,c_25]
    rcases zad hp with ⟨h_26,hp⟩|⟨h_26,hp⟩
    ·try simp at h_26
     cases hp
     try simp [q_7,q_6,h_8,h_17,h_26]
     refine zao ?_
     rw [X_4_]
     exact ⟨_,rfl,by simp [zac,zaa,q_7,q_6,h_8,h_17,h_26],by simp [zaa,q_7,q_6,h_8,h_17,h_26]⟩
    ·try simp at h_26
     cases hp
     try simp [q_7,q_6,h_8,h_17,h_26]
     refine zah ?_
     rw [I_3_]
     exact ⟨by simp [zac,zaa,q_7,q_6,h_8,h_17,h_26],by simp [zaa,q_7,q_6,h_8,h_17,h_26]⟩
   ·try simp at h_17
    cases hp
    try simp [q_7,q_6,h_8,h_17]
    refine zao ?_
    rw [X_4_]
    exact ⟨_,rfl,by simp [zac,zaa,q_7,q_6,h_8,h_17],by simp [zaa,q_7,q_6,h_8,h_17]⟩
  ·try simp at h_8
   cases hp
   try simp [q_7,q_6,h_8]
   refine zal ?_
   rw [X_4_]
   exact ⟨_,rfl,by simp [zac,zaa,q_7,q_6,h_8],by simp [zaa,q_7,q_6,h_8]⟩
 ·intro out hX
  rw [X_4_] at hX
  rcases r_27 with r_27 | r_27
  ·simp only [Sum.elim_inl,Sum.elim_inr] at hX hp
   obtain ⟨σ_29,rfl,q_31,q_30⟩:=hX
   cases hp
   simp [Goal,FnEnd,q_31,q_30]
  ·simp only [Sum.elim_inl,Sum.elim_inr] at hX hp
   obtain ⟨σ_32,rfl,q_34,q_33⟩:=hX
   obtain ⟨y_35,h_36,hp⟩:=zab hp
   have c_37:=C49_eq h_36
   simp at c_37
   cases hp
   simp [Goal,FnEnd,q_34,q_33,c_37]
theorem pc77:PC Tryz.prog 77 C77:=pc_of (g:=g77) (zaj _ g77_s.2.1 ⟨pc49,pc82,pc126,trivial⟩) (ent Tryz.func77) fun x y h=>w77 h

def C76:List AV→Option AV:=specP (X:=(List ByteArray) × TStmt × Unit) fun x=>spec_IsStmt x.1 x.2.1
theorem C76_eq {vars s} {y} (h:spec_IsStmt vars s=some y):C76 [av .shr vars,av .shr s]=some (Res.res y):=zai (x:=(vars,s,())) h
def g76:Cfg:={ P:=Tryz.prog,take:=[],keep:=[],gho:=[],ctx:=[(77,C77),(82,C82),(125,C125)] }
@[simp] theorem g76_s:type_of% (cfg_s (g:=g76) rfl):=cfg_s rfl
theorem w76 {vars s} {y} (hp:spec_IsStmt vars s=some y):∃ m,callo g76 0 76 [av .shr vars,av .shr s] mem0=some (Res.res y,m):=by
 refine st0 [.tmp 4] Tryz.func76 ?_
 unfold spec_IsStmt at hp
 obtain ⟨y_1,h_2,hp⟩:=zab hp
 have c_3:=C125_eq h_2
 simp at c_3
 obtain ⟨y_4,h_5,hp⟩:=zab hp
 have c_6:=C77_eq h_5
 simp at c_6
 simp [Tryz.f76,c_3,c_6]
 rcases zad hp with ⟨h_7,hp⟩|⟨h_7,hp⟩
 ·try simp at h_7
  try simp [h_7]
  rcases zad hp with ⟨h_8,hp⟩|⟨h_8,hp⟩
  ·try simp at h_8
   cases hp
   simp [Goal,FnEnd,h_7,h_8]
  ·try simp at h_8
   try simp [h_7,h_8]
   rcases zad hp with ⟨h_9,hp⟩|⟨h_9,hp⟩
   ·try simp at h_9
    try simp [h_7,h_8,h_9]
    rcases zad hp with ⟨h_10,hp⟩|⟨h_10,hp⟩
    ·try simp at h_10
     cases hp
     simp [Goal,FnEnd,h_7,h_8,h_9,h_10]
    ·try simp at h_10
     try simp [h_7,h_8,h_9,h_10]
     rcases zad hp with ⟨h_11,hp⟩|⟨h_11,hp⟩
     ·try simp at h_11
      try simp [h_7,h_8,h_9,h_10,h_11]
      rcases zad hp with ⟨h_12,hp⟩|⟨h_12,hp⟩
      ·try simp at h_12
       cases hp
       simp [Goal,FnEnd,h_7,h_8,h_9,h_10,h_11,h_12]
      ·try simp at h_12
       cases hp
       simp [Goal,FnEnd,h_7,h_8,h_9,h_10,h_11,h_12]
     ·try simp at h_11
      obtain ⟨y_13,h_14,hp⟩:=zab hp
      have c_15:=C82_eq h_14
      simp at c_15
      cases hp
      simp [Goal,FnEnd,h_7,h_8,h_9,h_10,h_11,c_15]
   ·try simp at h_9
    try simp [h_7,h_8,h_9]
    rcases zad hp with ⟨h_16,hp⟩|⟨h_16,hp⟩
    ·try simp at h_16
     try simp [h_7,h_8,h_9,h_16]
     rcases zad hp with ⟨h_17,hp⟩|⟨h_17,hp⟩
     ·try simp at h_17
      cases hp
      simp [Goal,FnEnd,h_7,h_8,h_9,h_16,h_17]
     ·try simp at h_17
      obtain ⟨y_18,h_19,hp⟩:=zab hp
      have c_20:=C82_eq h_19
      simp at c_20
      try simp [h_7,h_8,h_9,h_16,h_17,c_20]
      rcases zad hp with ⟨h_21,hp⟩|⟨h_21,hp⟩
      ·try simp at h_21
       cases hp
       simp [Goal,FnEnd,h_7,h_8,h_9,h_16,h_17,h_21]
      ·try simp at h_21
       cases hp
       simp [Goal,FnEnd,h_7,h_8,h_9,h_16,h_17,h_21]
    ·try simp at h_16
     obtain ⟨y_22,h_23,hp⟩:=zab hp
     have c_24:=C82_eq h_23
     simp at c_24
     try simp [h_7,h_8,h_9,h_16,c_24]
     rcases zad hp with ⟨h_25,hp⟩|⟨h_25,hp⟩
     ·try simp at h_25
      obtain ⟨y_26,h_27,hp⟩:=zab hp
      have c_28:=C82_eq h_27
      simp at c_28
      cases hp
      simp [Goal,FnEnd,h_7,h_8,h_9,h_16,h_25,c_28]
     ·try simp at h_25
      cases hp
      simp [Goal,FnEnd,h_7,h_8,h_9,h_16,h_25]
 ·try simp at h_7
  cases hp
  simp [Goal,FnEnd,h_7]
theorem pc76:PC Tryz.prog 76 C76:=pc_of (g:=g76) (zaj _ g76_s.2.1 ⟨pc77,pc82,pc125,trivial⟩) (ent Tryz.func76) fun x y h=>w76 h

def C46:List AV→Option AV:=specP (X:=TProgram × Unit) fun x=>spec_IsProgram x.1
theorem C46_eq {p_} {y} (h:spec_IsProgram p_=some y):C46 [av .shr p_]=some (Res.res y):=zai (x:=(p_,())) h
def g46:Cfg:={ P:=Tryz.prog,take:=[],keep:=[((46,2),{ hd:=[1,3],bx:=[4],ex:=[1],rt:=[2] })],gho:=[],ctx:=[(49,C49),(76,C76),(77,C77)] }
@[simp] theorem g46_s:type_of% (cfg_s (g:=g46) rfl):=cfg_s rfl
theorem w46 {p_} {y} (hp:spec_IsProgram p_=some y):∃ m,callo g46 0 46 [av .shr p_] mem0=some (Res.res y,m):=by
 refine st0 [.tmp 2] Tryz.func46 ?_
 unfold spec_IsProgram at hp
 simp [Tryz.f46]
 obtain ⟨r_27,h_28,hp⟩:=zab hp
 obtain ⟨I_3,I_3_⟩:=exV fun (s_1:Int) (σ:St)=>(σ.env 1=uP (1,1)∧σ.env 3=uI s_1∧σ.mem (1,1)=some [cL .shr p_.vars,cI p_.points,cL .shr p_.edges])∧NoBox [(1,1)] σ.mem
 obtain ⟨X_4,X_4_⟩:=exV fun (r_27:(Unit) ⊕ (Unit)) (out:Out)=>Sum.elim (fun r_27=>∃ σ:St,out=.ret σ∧(σ.env 2=uB false∧σ.mem (1,1)=some [cL .shr p_.vars,cI p_.points,cL .shr p_.edges])∧NoBox [(1,1)] σ.mem) (fun r_27=>∃ σ:St,out=.exit 0 σ∧(σ.env 1=uP (1,1)∧σ.mem (1,1)=some [cL .shr p_.vars,cI p_.points,cL .shr p_.edges])∧NoBox [(1,1)] σ.mem) r_27
 refine loopP ({ hd:=[1,3],bx:=[4],ex:=[1],rt:=[2] }) I_3 X_4 h_28 (by exact rfl) ?_ ?_ ?_
 ·rw [I_3_]
  exact ⟨by simp [zac,zaa],NoBox.restrict (by intro k hk hb;simp at hk hb;simp [hk,hb])⟩
 ·intro s_1 σ_5 a_2 hI hp
  rw [I_3_] at hI
  obtain ⟨q_7,hn_6⟩:=hI
  try simp [q_7]
  rcases zad hp with ⟨h_8,hp⟩|⟨h_8,hp⟩
  ·try simp at h_8
   obtain ⟨e_9,h_10,hp⟩:=zab hp
   have b_11:=at_lo h_10
   have b_12:=at_hi h_10
   try simp at b_11 b_12
   have c_13:=seg_at' h_10 0 5 (by decide) (ds:=[.sc (.int .i64 e_9.from_),.sc (.int .i64 e_9.to_),.sc (.int .i64 e_9.stmt.kind),.sc (.string e_9.stmt.a),.sc (.string e_9.stmt.b)]) rfl
   try simp at c_13
   have n_14:=hn_6 (1,4) (by simp)
   obtain ⟨y_15,h_16,hp⟩:=zab hp
   have c_17:=C49_eq h_16
   simp at c_17
   try simp [q_7,h_8,b_11,b_12,c_13,n_14,c_17]
   rcases zad hp with ⟨h_18,hp⟩|⟨h_18,hp⟩
   ·try simp at h_18
    obtain ⟨y_19,h_20,hp⟩:=zab hp
    have c_21:=C49_eq h_20
    simp at c_21
    try simp [q_7,h_8,h_18,c_21]
    rcases zad hp with ⟨h_22,hp⟩|⟨h_22,hp⟩
    ·try simp at h_22
     obtain ⟨y_23,h_24,hp⟩:=zab hp
     have c_25:=C76_eq h_24
     simp at c_25
     try simp [q_7,h_8,h_18,h_22,c_25]
     rcases zad hp with ⟨h_26,hp⟩|⟨h_26,hp⟩
     ·try simp at h_26
      cases hp
      try simp [q_7,h_8,h_18,h_22,h_26]
      refine zah ?_
      rw [I_3_]
      exact ⟨by simp [zac,zaa,q_7,h_8,h_18,h_22,h_26],NoBox.restrict (by intro k hk hb;simp at hk hb;simp [hk,hb,q_7,h_8,h_18,h_22,h_26,hn_6 k (by simp [hk,hb])])⟩
     ·try simp at h_26
      cases hp
      try simp [q_7,h_8,h_18,h_22,h_26]
      refine zao ?_
      rw [X_4_]
      exact ⟨_,rfl,by simp [zac,zaa,q_7,h_8,h_18,h_22,h_26],NoBox.restrict (by intro k hk hb;simp at hk hb;simp [hk,hb,q_7,h_8,h_18,h_22,h_26,hn_6 k (by simp [hk,hb])])⟩
    ·try simp at h_22
     cases hp
     try simp [q_7,h_8,h_18,h_22]
     refine zao ?_
     rw [X_4_]
     exact ⟨_,rfl,by simp [zac,zaa,q_7,h_8,h_18,h_22],NoBox.restrict (by intro k hk hb;simp at hk hb;simp [hk,hb,q_7,h_8,h_18,h_22,hn_6 k (by simp [hk,hb])])⟩
   ·try simp at h_18
    cases hp
    try simp [q_7,h_8,h_18]
    refine zao ?_
    rw [X_4_]
    exact ⟨_,rfl,by simp [zac,zaa,q_7,h_8,h_18],NoBox.restrict (by intro k hk hb;simp at hk hb;simp [hk,hb,q_7,h_8,h_18,hn_6 k (by simp [hk,hb])])⟩
  ·try simp at h_8
   cases hp
   try simp [q_7,h_8]
   refine zal ?_
   rw [X_4_]
   exact ⟨_,rfl,by simp [zac,zaa,q_7,h_8],NoBox.restrict (by intro k hk hb;simp at hk hb;simp [hk,hb,q_7,h_8,hn_6 k (by simp [hk,hb])])⟩
 ·intro out hX
  rw [X_4_] at hX
  rcases r_27 with r_27 | r_27
  ·simp only [Sum.elim_inl,Sum.elim_inr] at hX hp
   obtain ⟨σ_29,rfl,q_31,hn_30⟩:=hX
   cases hp
   simp [Goal,FnEnd,q_31]
  ·simp only [Sum.elim_inl,Sum.elim_inr] at hX hp
   obtain ⟨σ_32,rfl,q_34,hn_33⟩:=hX
   obtain ⟨y_35,h_36,hp⟩:=zab hp
   have c_37:=C77_eq h_36
   simp at c_37
   try simp [q_34,c_37]
   rcases zad hp with ⟨h_38,hp⟩|⟨h_38,hp⟩
   ·try simp at h_38
    obtain ⟨y_39,h_40,hp⟩:=zab hp
    have c_41:=C49_eq h_40
    simp at c_41
    try simp [q_34,h_38,c_41]
    rcases zad hp with ⟨h_42,hp⟩|⟨h_42,hp⟩
    ·try simp at h_42
     cases hp
     simp [Goal,FnEnd,q_34,h_38,h_42]
    ·try simp at h_42
     cases hp
     simp [Goal,FnEnd,q_34,h_38,h_42]
   ·try simp at h_38
    cases hp
    simp [Goal,FnEnd,q_34,h_38]
theorem pc46:PC Tryz.prog 46 C46:=pc_of (g:=g46) (zaj _ g46_s.2.1 ⟨pc49,pc76,pc77,trivial⟩) (ent Tryz.func46) fun x y h=>w46 h

def C78:List AV→Option AV:=specP (X:=THeap × Unit) fun x=>spec_l7Cells x.1
theorem C78_eq {h_} {y} (h:spec_l7Cells h_=some y):C78 [av .shr h_]=some (Res.res y):=zai (x:=(h_,())) h
def g78:Cfg:={ P:=Tryz.prog,take:=[],keep:=[((78,2),{ hd:=[1,3],bx:=[],ex:=[1],rt:=[2] }),((78,7),{ hd:=[1,4],bx:=[],ex:=[],rt:=[2] })],gho:=[],ctx:=[(49,C49)] }
@[simp] theorem g78_s:type_of% (cfg_s (g:=g78) rfl):=cfg_s rfl
theorem w78 {h_} {y} (hp:spec_l7Cells h_=some y):∃ m,callo g78 0 78 [av .shr h_] mem0=some (Res.res y,m):=by
 refine st0 [.tmp 2] Tryz.func78 ?_
 unfold spec_l7Cells at hp
 simp [Tryz.f78]
 obtain ⟨r_18,h_19,hp⟩:=zab hp
 obtain ⟨I_3,I_3_⟩:=exV fun (s_1:Int) (σ:St)=>(σ.env 1=uP (1,1)∧σ.env 3=uI s_1∧σ.mem (1,1)=some [cL .shr h_.vars,cL .shr h_.next])∧NoBox [(1,1)] σ.mem
 obtain ⟨X_4,X_4_⟩:=exV fun (r_18:(Unit) ⊕ (Unit)) (out:Out)=>Sum.elim (fun r_18=>∃ σ:St,out=.ret σ∧(σ.env 2=uB false∧σ.mem (1,1)=some [cL .shr h_.vars,cL .shr h_.next])∧NoBox [(1,1)] σ.mem) (fun r_18=>∃ σ:St,out=.exit 0 σ∧(σ.env 1=uP (1,1)∧σ.mem (1,1)=some [cL .shr h_.vars,cL .shr h_.next])∧NoBox [(1,1)] σ.mem) r_18
 refine loopP ({ hd:=[1,3],bx:=[],ex:=[1],rt:=[2] }) I_3 X_4 h_19 (by exact rfl) ?_ ?_ ?_
 ·rw [I_3_]
  exact ⟨by simp [zac,zaa],NoBox.restrict (by intro k hk hb;simp at hk hb;simp [hk,hb])⟩
 ·intro s_1 σ_5 a_2 hI hp
  rw [I_3_] at hI
  obtain ⟨q_7,hn_6⟩:=hI
  try simp [q_7]
  rcases zad hp with ⟨h_8,hp⟩|⟨h_8,hp⟩
  ·try simp at h_8
   obtain ⟨e_9,h_10,hp⟩:=zab hp
   have b_11:=at_lo h_10
   have b_12:=at_hi h_10
   try simp at b_11 b_12
   have c_13:=seg_at' h_10 0 1 (by decide) (ds:=[.sc (.int .i64 e_9)]) rfl
   try simp at c_13
   obtain ⟨y_14,h_15,hp⟩:=zab hp
   have c_16:=C49_eq h_15
   simp at c_16
   try simp [q_7,h_8,b_11,b_12,c_13,c_16]
   rcases zad hp with ⟨h_17,hp⟩|⟨h_17,hp⟩
   ·try simp at h_17
    cases hp
    try simp [q_7,h_8,h_17]
    refine zah ?_
    rw [I_3_]
    exact ⟨by simp [zac,zaa,q_7,h_8,h_17],NoBox.restrict (by intro k hk hb;simp at hk hb;simp [hk,hb,q_7,h_8,h_17,hn_6 k (by simp [hk,hb])])⟩
   ·try simp at h_17
    cases hp
    try simp [q_7,h_8,h_17]
    refine zao ?_
    rw [X_4_]
    exact ⟨_,rfl,by simp [zac,zaa,q_7,h_8,h_17],NoBox.restrict (by intro k hk hb;simp at hk hb;simp [hk,hb,q_7,h_8,h_17,hn_6 k (by simp [hk,hb])])⟩
  ·try simp at h_8
   cases hp
   try simp [q_7,h_8]
   refine zal ?_
   rw [X_4_]
   exact ⟨_,rfl,by simp [zac,zaa,q_7,h_8],NoBox.restrict (by intro k hk hb;simp at hk hb;simp [hk,hb,q_7,h_8,hn_6 k (by simp [hk,hb])])⟩
 ·intro out hX
  rw [X_4_] at hX
  rcases r_18 with r_18 | r_18
  ·simp only [Sum.elim_inl,Sum.elim_inr] at hX hp
   obtain ⟨σ_20,rfl,q_22,hn_21⟩:=hX
   cases hp
   simp [Goal,FnEnd,q_22]
  ·simp only [Sum.elim_inl,Sum.elim_inr] at hX hp
   obtain ⟨σ_23,rfl,q_25,hn_24⟩:=hX
   try simp [q_25]
   obtain ⟨r_43,h_44,hp⟩:=zab hp
   obtain ⟨I_28,I_28_⟩:=exV fun (s_26:Int) (σ:St)=>(σ.env 1=uP (1,1)∧σ.env 4=uI s_26∧σ.mem (1,1)=some [cL .shr h_.vars,cL .shr h_.next])∧NoBox [(1,1)] σ.mem
   obtain ⟨X_29,X_29_⟩:=exV fun (r_43:(Bool) ⊕ (Unit)) (out:Out)=>Sum.elim (fun r_43=>∃ σ:St,out=.ret σ∧(σ.env 2=uB r_43∧σ.mem (1,1)=some [cL .shr h_.vars,cL .shr h_.next])∧NoBox [(1,1)] σ.mem) (fun r_43=>∃ σ:St,out=.exit 2 σ∧σ.mem (1,1)=some [cL .shr h_.vars,cL .shr h_.next]∧NoBox [(1,1)] σ.mem) r_43
   refine loopP ({ hd:=[1,4],bx:=[],ex:=[],rt:=[2] }) I_28 X_29 h_44 (by exact rfl) ?_ ?_ ?_
   ·rw [I_28_]
    exact ⟨by simp [zac,zaa,q_25],NoBox.restrict (by intro k hk hb;simp at hk hb;simp [hk,hb,q_25,hn_24 k (by simp [hk,hb])])⟩
   ·intro s_26 σ_30 a_27 hI hp
    rw [I_28_] at hI
    obtain ⟨q_32,hn_31⟩:=hI
    try simp [q_32]
    rcases zad hp with ⟨h_33,hp⟩|⟨h_33,hp⟩
    ·try simp at h_33
     obtain ⟨e_34,h_35,hp⟩:=zab hp
     have b_36:=at_lo h_35
     have b_37:=at_hi h_35
     try simp at b_36 b_37
     have c_38:=seg_at' h_35 0 1 (by decide) (ds:=[.sc (.int .i64 e_34)]) rfl
     try simp at c_38
     obtain ⟨y_39,h_40,hp⟩:=zab hp
     have c_41:=C49_eq h_40
     simp at c_41
     try simp [q_32,h_33,b_36,b_37,c_38,c_41]
     rcases zad hp with ⟨h_42,hp⟩|⟨h_42,hp⟩
     ·try simp at h_42
      cases hp
      try simp [q_32,h_33,h_42]
      refine zah ?_
      rw [I_28_]
      exact ⟨by simp [zac,zaa,q_32,h_33,h_42],NoBox.restrict (by intro k hk hb;simp at hk hb;simp [hk,hb,q_32,h_33,h_42,hn_31 k (by simp [hk,hb])])⟩
     ·try simp at h_42
      cases hp
      try simp [q_32,h_33,h_42]
      refine zao ?_
      rw [X_29_]
      exact ⟨_,rfl,by simp [zac,zaa,q_32,h_33,h_42],NoBox.restrict (by intro k hk hb;simp at hk hb;simp [hk,hb,q_32,h_33,h_42,hn_31 k (by simp [hk,hb])])⟩
    ·try simp at h_33
     cases hp
     try simp [q_32,h_33]
     refine zal ?_
     rw [X_29_]
     exact ⟨_,rfl,by simp [zac,zaa,q_32,h_33],NoBox.restrict (by intro k hk hb;simp at hk hb;simp [hk,hb,q_32,h_33,hn_31 k (by simp [hk,hb])])⟩
   ·intro out hX
    rw [X_29_] at hX
    rcases r_43 with r_43 | r_43
    ·simp only [Sum.elim_inl,Sum.elim_inr] at hX hp
     obtain ⟨σ_45,rfl,q_47,hn_46⟩:=hX
     cases hp
     simp [Goal,FnEnd,q_47]
    ·simp only [Sum.elim_inl,Sum.elim_inr] at hX hp
     obtain ⟨σ_48,rfl,q_50,hn_49⟩:=hX
     cases hp
     simp [Goal,FnEnd,q_50]
theorem pc78:PC Tryz.prog 78 C78:=pc_of (g:=g78) (zaj _ g78_s.2.1 ⟨pc49,trivial⟩) (ent Tryz.func78) fun x y h=>w78 h
end Go.Proofs

