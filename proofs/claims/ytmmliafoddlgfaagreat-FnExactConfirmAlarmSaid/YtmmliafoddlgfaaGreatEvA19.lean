import Derived.Test.YtmmliafoddlgfaaGreatEvA18
set_option linter.unusedSimpArgs false
set_option linter.unusedVariables false
set_option linter.unnecessarySimpa false
noncomputable section
set_option maxHeartbeats 4000000
set_option maxRecDepth 100000
namespace Go.Proofs
open Go.Ev
def C18:List AV→Option AV:=specP (X:=(List Int) × (List Int) × Unit) fun x=>laws_eqIntS x.1 x.2.1
theorem C18_eq {a_ b_} {y} (h:laws_eqIntS a_ b_=some y):C18 [av .shr a_,av .shr b_]=some (Res.res y):=zai (x:=(a_,b_,())) h
def g18:Cfg:={ P:=Tryz.prog,take:=[],keep:=[((18,4),{ hd:=[0,1,5],bx:=[],ex:=[],rt:=[4] })],gho:=[],ctx:=[] }
@[simp] theorem g18_s:type_of% (cfg_s (g:=g18) rfl):=cfg_s rfl
theorem w18 {a_ b_} {y} (hp:laws_eqIntS a_ b_=some y):∃ m,callo g18 0 18 [av .shr a_,av .shr b_] mem0=some (Res.res y,m):=by
 refine st0 [.tmp 4] Tryz.func18 ?_
 unfold laws_eqIntS at hp
 simp [Tryz.f18]
 rcases zad hp with ⟨h_1,hp⟩|⟨h_1,hp⟩
 ·try simp at h_1
  cases hp
  simp [Goal,FnEnd,h_1]
 ·try simp at h_1
  try simp [h_1]
  obtain ⟨r_21,h_22,hp⟩:=zab hp
  obtain ⟨I_4,I_4_⟩:=exV fun (s_2:Int) (σ:St)=>(σ.env 0=uL .shr a_∧σ.env 1=uL .shr b_∧σ.env 5=uI s_2)∧σ.mem=mem0
  obtain ⟨X_5,X_5_⟩:=exV fun (r_21:(Unit) ⊕ (Unit)) (out:Out)=>Sum.elim (fun r_21=>∃ σ:St,out=.ret σ∧σ.env 4=uB false∧σ.mem=mem0) (fun r_21=>∃ σ:St,out=.exit 0 σ∧σ.mem=mem0) r_21
  refine loopP ({ hd:=[0,1,5],bx:=[],ex:=[],rt:=[4] }) I_4 X_5 h_22 (by exact rfl) ?_ ?_ ?_
  ·rw [I_4_]
   exact ⟨by simp [zac,zaa,h_1],by simp [zaa,h_1]⟩
  ·intro s_2 σ_6 a_3 hI hp
   rw [I_4_] at hI
   obtain ⟨q_8,q_7⟩:=hI
   try simp [h_1,q_8,q_7]
   rcases zad hp with ⟨h_9,hp⟩|⟨h_9,hp⟩
   ·try simp at h_9
    obtain ⟨e_10,h_11,hp⟩:=zab hp
    have b_12:=at_lo h_11
    have b_13:=at_hi h_11
    try simp at b_12 b_13
    have c_14:=seg_at' h_11 0 1 (by decide) (ds:=[.sc (.int .i64 e_10)]) rfl
    try simp at c_14
    obtain ⟨e_15,h_16,hp⟩:=zab hp
    have b_17:=at_lo h_16
    have b_18:=at_hi h_16
    try simp at b_17 b_18
    have c_19:=seg_at' h_16 0 1 (by decide) (ds:=[.sc (.int .i64 e_15)]) rfl
    try simp at c_19
    try simp [h_1,q_8,q_7,h_9,b_12,b_13,c_14,b_17,b_18,c_19]
    rcases zad hp with ⟨h_20,hp⟩|⟨h_20,hp⟩
    ·try simp at h_20
     cases hp
     try simp [h_1,q_8,q_7,h_9,h_20]
     refine zao ?_
     rw [X_5_]
     exact ⟨_,rfl,by simp [zac,zaa,h_1,q_8,q_7,h_9,h_20],by simp [zaa,h_1,q_8,q_7,h_9,h_20]⟩
    ·try simp at h_20
     cases hp
     try simp [h_1,q_8,q_7,h_9,h_20]
     refine zah ?_
     rw [I_4_]
     exact ⟨by simp [zac,zaa,h_1,q_8,q_7,h_9,h_20],by simp [zaa,h_1,q_8,q_7,h_9,h_20]⟩
   ·try simp at h_9
    cases hp
    try simp [h_1,q_8,q_7,h_9]
    refine zal ?_
    rw [X_5_]
    exact ⟨_,rfl,by simp [zaa,h_1,q_8,q_7,h_9]⟩
  ·intro out hX
   rw [X_5_] at hX
   rcases r_21 with r_21 | r_21
   ·simp only [Sum.elim_inl,Sum.elim_inr] at hX hp
    obtain ⟨σ_23,rfl,q_25,q_24⟩:=hX
    cases hp
    simp [Goal,FnEnd,h_1,q_25,q_24]
   ·simp only [Sum.elim_inl,Sum.elim_inr] at hX hp
    obtain ⟨σ_26,rfl,q_27⟩:=hX
    cases hp
    simp [Goal,FnEnd,h_1,q_27]
theorem pc18:PC Tryz.prog 18 C18:=pc_of (g:=g18) (zaj [] rfl trivial) (ent Tryz.func18) fun x y h=>w18 h

def C17:List AV→Option AV:=specP (X:=THeap × THeap × Unit) fun x=>laws_eqHeap x.1 x.2.1
theorem C17_eq {a_ b_} {y} (h:laws_eqHeap a_ b_=some y):C17 [av .shr a_,av .shr b_]=some (Res.res y):=zai (x:=(a_,b_,())) h
def g17:Cfg:={ P:=Tryz.prog,take:=[],keep:=[],gho:=[],ctx:=[(18,C18)] }
@[simp] theorem g17_s:type_of% (cfg_s (g:=g17) rfl):=cfg_s rfl
theorem w17 {a_ b_} {y} (hp:laws_eqHeap a_ b_=some y):∃ m,callo g17 0 17 [av .shr a_,av .shr b_] mem0=some (Res.res y,m):=by
 refine st0 [.tmp 4] Tryz.func17 ?_
 unfold laws_eqHeap at hp
 obtain ⟨y_1,h_2,hp⟩:=zab hp
 have c_3:=C18_eq h_2
 simp at c_3
 simp [Tryz.f17,c_3]
 rcases zad hp with ⟨h_4,hp⟩|⟨h_4,hp⟩
 ·try simp at h_4
  obtain ⟨y_5,h_6,hp⟩:=zab hp
  have c_7:=C18_eq h_6
  simp at c_7
  try simp [h_4,c_7]
  rcases zad hp with ⟨h_8,hp⟩|⟨h_8,hp⟩
  ·try simp at h_8
   cases hp
   simp [Goal,FnEnd,h_4,h_8]
  ·try simp at h_8
   cases hp
   simp [Goal,FnEnd,h_4,h_8]
 ·try simp at h_4
  cases hp
  simp [Goal,FnEnd,h_4]
theorem pc17:PC Tryz.prog 17 C17:=pc_of (g:=g17) (zaj _ g17_s.2.1 ⟨pc18,trivial⟩) (ent Tryz.func17) fun x y h=>w17 h

def C37:List AV→Option AV:=specP (X:=TFailure × TFailure × Unit) fun x=>laws_eqFailure x.1 x.2.1
theorem C37_eq {a_ b_} {y} (h:laws_eqFailure a_ b_=some y):C37 [av .shr a_,av .shr b_]=some (Res.res y):=zai (x:=(a_,b_,())) h
def g37:Cfg:={ P:=Tryz.prog,take:=[],keep:=[],gho:=[],ctx:=[(17,C17),(18,C18)] }
@[simp] theorem g37_s:type_of% (cfg_s (g:=g37) rfl):=cfg_s rfl
theorem w37 {a_ b_} {y} (hp:laws_eqFailure a_ b_=some y):∃ m,callo g37 0 37 [av .shr a_,av .shr b_] mem0=some (Res.res y,m):=by
 refine st0 [.tmp 4] Tryz.func37 ?_
 unfold laws_eqFailure at hp
 obtain ⟨y_1,h_2,hp⟩:=zab hp
 have c_3:=C17_eq h_2
 simp at c_3
 simp [Tryz.f37,c_3]
 rcases zad hp with ⟨h_4,hp⟩|⟨h_4,hp⟩
 ·try simp at h_4
  obtain ⟨y_5,h_6,hp⟩:=zab hp
  have c_7:=C18_eq h_6
  simp at c_7
  try simp [h_4,c_7]
  rcases zad hp with ⟨h_8,hp⟩|⟨h_8,hp⟩
  ·try simp at h_8
   try simp [h_4,h_8]
   rcases zad hp with ⟨h_9,hp⟩|⟨h_9,hp⟩
   ·try simp at h_9
    cases hp
    simp [Goal,FnEnd,h_4,h_8,h_9]
   ·try simp at h_9
    cases hp
    simp [Goal,FnEnd,h_4,h_8,h_9]
  ·try simp at h_8
   cases hp
   simp [Goal,FnEnd,h_4,h_8]
 ·try simp at h_4
  cases hp
  simp [Goal,FnEnd,h_4]
theorem pc37:PC Tryz.prog 37 C37:=pc_of (g:=g37) (zaj _ g37_s.2.1 ⟨pc17,pc18,trivial⟩) (ent Tryz.func37) fun x y h=>w37 h

def C58:List AV→Option AV:=specP (X:=(List ByteArray) × (List ByteArray) × Unit) fun x=>laws_eqStringS x.1 x.2.1
theorem C58_eq {a_ b_} {y} (h:laws_eqStringS a_ b_=some y):C58 [av .shr a_,av .shr b_]=some (Res.res y):=zai (x:=(a_,b_,())) h
def g58:Cfg:={ P:=Tryz.prog,take:=[],keep:=[((58,4),{ hd:=[0,1,5],bx:=[],ex:=[],rt:=[4] })],gho:=[],ctx:=[] }
@[simp] theorem g58_s:type_of% (cfg_s (g:=g58) rfl):=cfg_s rfl
theorem w58 {a_ b_} {y} (hp:laws_eqStringS a_ b_=some y):∃ m,callo g58 0 58 [av .shr a_,av .shr b_] mem0=some (Res.res y,m):=by
 refine st0 [.tmp 4] Tryz.func58 ?_
 unfold laws_eqStringS at hp
 simp [Tryz.f58]
 rcases zad hp with ⟨h_1,hp⟩|⟨h_1,hp⟩
 ·try simp at h_1
  cases hp
  simp [Goal,FnEnd,h_1]
 ·try simp at h_1
  try simp [h_1]
  obtain ⟨r_21,h_22,hp⟩:=zab hp
  obtain ⟨I_4,I_4_⟩:=exV fun (s_2:Int) (σ:St)=>(σ.env 0=uL .shr a_∧σ.env 1=uL .shr b_∧σ.env 5=uI s_2)∧σ.mem=mem0
  obtain ⟨X_5,X_5_⟩:=exV fun (r_21:(Unit) ⊕ (Unit)) (out:Out)=>Sum.elim (fun r_21=>∃ σ:St,out=.ret σ∧σ.env 4=uB false∧σ.mem=mem0) (fun r_21=>∃ σ:St,out=.exit 0 σ∧σ.mem=mem0) r_21
  refine loopP ({ hd:=[0,1,5],bx:=[],ex:=[],rt:=[4] }) I_4 X_5 h_22 (by exact rfl) ?_ ?_ ?_
  ·rw [I_4_]
   exact ⟨by simp [zac,zaa,h_1],by simp [zaa,h_1]⟩
  ·intro s_2 σ_6 a_3 hI hp
   rw [I_4_] at hI
   obtain ⟨q_8,q_7⟩:=hI
   try simp [h_1,q_8,q_7]
   rcases zad hp with ⟨h_9,hp⟩|⟨h_9,hp⟩
   ·try simp at h_9
    obtain ⟨e_10,h_11,hp⟩:=zab hp
    have b_12:=at_lo h_11
    have b_13:=at_hi h_11
    try simp at b_12 b_13
    have c_14:=seg_at' h_11 0 1 (by decide) (ds:=[.sc (.string e_10)]) rfl
    try simp at c_14
    obtain ⟨e_15,h_16,hp⟩:=zab hp
    have b_17:=at_lo h_16
    have b_18:=at_hi h_16
    try simp at b_17 b_18
    have c_19:=seg_at' h_16 0 1 (by decide) (ds:=[.sc (.string e_15)]) rfl
    try simp at c_19
    try simp [h_1,q_8,q_7,h_9,b_12,b_13,c_14,b_17,b_18,c_19]
    rcases zad hp with ⟨h_20,hp⟩|⟨h_20,hp⟩
    ·try simp at h_20
     cases hp
     try simp [h_1,q_8,q_7,h_9,h_20]
     refine zao ?_
     rw [X_5_]
     exact ⟨_,rfl,by simp [zac,zaa,h_1,q_8,q_7,h_9,h_20],by simp [zaa,h_1,q_8,q_7,h_9,h_20]⟩
    ·try simp at h_20
     cases hp
     try simp [h_1,q_8,q_7,h_9,h_20]
     refine zah ?_
     rw [I_4_]
     exact ⟨by simp [zac,zaa,h_1,q_8,q_7,h_9,h_20],by simp [zaa,h_1,q_8,q_7,h_9,h_20]⟩
   ·try simp at h_9
    cases hp
    try simp [h_1,q_8,q_7,h_9]
    refine zal ?_
    rw [X_5_]
    exact ⟨_,rfl,by simp [zaa,h_1,q_8,q_7,h_9]⟩
  ·intro out hX
   rw [X_5_] at hX
   rcases r_21 with r_21 | r_21
   ·simp only [Sum.elim_inl,Sum.elim_inr] at hX hp
    obtain ⟨σ_23,rfl,q_25,q_24⟩:=hX
    cases hp
    simp [Goal,FnEnd,h_1,q_25,q_24]
   ·simp only [Sum.elim_inl,Sum.elim_inr] at hX hp
    obtain ⟨σ_26,rfl,q_27⟩:=hX
    cases hp
    simp [Goal,FnEnd,h_1,q_27]
theorem pc58:PC Tryz.prog 58 C58:=pc_of (g:=g58) (zaj [] rfl trivial) (ent Tryz.func58) fun x y h=>w58 h

def C145:List AV→Option AV:=specP (X:=TStmt × TStmt × Unit) fun x=>laws_eqStmt x.1 x.2.1
theorem C145_eq {a_ b_} {y} (h:laws_eqStmt a_ b_=some y):C145 [av .shr a_,av .shr b_]=some (Res.res y):=zai (x:=(a_,b_,())) h
def g145:Cfg:={ P:=Tryz.prog,take:=[],keep:=[],gho:=[],ctx:=[] }
@[simp] theorem g145_s:type_of% (cfg_s (g:=g145) rfl):=cfg_s rfl
theorem w145 {a_ b_} {y} (hp:laws_eqStmt a_ b_=some y):∃ m,callo g145 0 145 [av .shr a_,av .shr b_] mem0=some (Res.res y,m):=by
 refine st0 [.tmp 4] Tryz.func145 ?_
 unfold laws_eqStmt at hp
 simp [Tryz.f145]
 rcases zad hp with ⟨h_1,hp⟩|⟨h_1,hp⟩
 ·try simp at h_1
  cases hp
  simp [Goal,FnEnd,h_1]
 ·try simp at h_1
  try simp [h_1]
  rcases zad hp with ⟨h_2,hp⟩|⟨h_2,hp⟩
  ·try simp at h_2
   cases hp
   simp [Goal,FnEnd,h_1,h_2]
  ·try simp at h_2
   try simp [h_1,h_2]
   rcases zad hp with ⟨h_3,hp⟩|⟨h_3,hp⟩
   ·try simp at h_3
    cases hp
    simp [Goal,FnEnd,h_1,h_2,h_3]
   ·try simp at h_3
    cases hp
    simp [Goal,FnEnd,h_1,h_2,h_3]
theorem pc145:PC Tryz.prog 145 C145:=pc_of (g:=g145) (zaj [] rfl trivial) (ent Tryz.func145) fun x y h=>w145 h

def C109:List AV→Option AV:=specP (X:=TEdge × TEdge × Unit) fun x=>laws_eqEdge x.1 x.2.1
theorem C109_eq {a_ b_} {y} (h:laws_eqEdge a_ b_=some y):C109 [av .shr a_,av .shr b_]=some (Res.res y):=zai (x:=(a_,b_,())) h
def g109:Cfg:={ P:=Tryz.prog,take:=[],keep:=[],gho:=[],ctx:=[(145,C145)] }
@[simp] theorem g109_s:type_of% (cfg_s (g:=g109) rfl):=cfg_s rfl
theorem w109 {a_ b_} {y} (hp:laws_eqEdge a_ b_=some y):∃ m,callo g109 0 109 [av .shr a_,av .shr b_] mem0=some (Res.res y,m):=by
 refine st0 [.tmp 4] Tryz.func109 ?_
 unfold laws_eqEdge at hp
 simp [Tryz.f109]
 rcases zad hp with ⟨h_1,hp⟩|⟨h_1,hp⟩
 ·try simp at h_1
  cases hp
  simp [Goal,FnEnd,h_1]
 ·try simp at h_1
  try simp [h_1]
  rcases zad hp with ⟨h_2,hp⟩|⟨h_2,hp⟩
  ·try simp at h_2
   cases hp
   simp [Goal,FnEnd,h_1,h_2]
  ·try simp at h_2
   obtain ⟨y_3,h_4,hp⟩:=zab hp
   have c_5:=C145_eq h_4
   simp at c_5
   try simp [h_1,h_2,c_5]
   rcases zad hp with ⟨h_6,hp⟩|⟨h_6,hp⟩
   ·try simp at h_6
    cases hp
    simp [Goal,FnEnd,h_1,h_2,h_6]
   ·try simp at h_6
    cases hp
    simp [Goal,FnEnd,h_1,h_2,h_6]
theorem pc109:PC Tryz.prog 109 C109:=pc_of (g:=g109) (zaj _ g109_s.2.1 ⟨pc145,trivial⟩) (ent Tryz.func109) fun x y h=>w109 h

def C59:List AV→Option AV:=specP (X:=(List TEdge) × (List TEdge) × Unit) fun x=>laws_eqEdgeS x.1 x.2.1
theorem C59_eq {a_ b_} {y} (h:laws_eqEdgeS a_ b_=some y):C59 [av .shr a_,av .shr b_]=some (Res.res y):=zai (x:=(a_,b_,())) h
def g59:Cfg:={ P:=Tryz.prog,take:=[],keep:=[((59,4),{ hd:=[0,1,5],bx:=[],ex:=[],rt:=[4] })],gho:=[],ctx:=[(109,C109)] }
@[simp] theorem g59_s:type_of% (cfg_s (g:=g59) rfl):=cfg_s rfl
theorem w59 {a_ b_} {y} (hp:laws_eqEdgeS a_ b_=some y):∃ m,callo g59 0 59 [av .shr a_,av .shr b_] mem0=some (Res.res y,m):=by
 refine st0 [.tmp 4] Tryz.func59 ?_
 unfold laws_eqEdgeS at hp
 simp [Tryz.f59]
 rcases zad hp with ⟨h_1,hp⟩|⟨h_1,hp⟩
 ·try simp at h_1
  cases hp
  simp [Goal,FnEnd,h_1]
 ·try simp at h_1
  try simp [h_1]
  obtain ⟨r_24,h_25,hp⟩:=zab hp
  obtain ⟨I_4,I_4_⟩:=exV fun (s_2:Int) (σ:St)=>(σ.env 0=uL .shr a_∧σ.env 1=uL .shr b_∧σ.env 5=uI s_2)∧σ.mem=mem0
  obtain ⟨X_5,X_5_⟩:=exV fun (r_24:(Unit) ⊕ (Unit)) (out:Out)=>Sum.elim (fun r_24=>∃ σ:St,out=.ret σ∧σ.env 4=uB false∧σ.mem=mem0) (fun r_24=>∃ σ:St,out=.exit 0 σ∧σ.mem=mem0) r_24
  refine loopP ({ hd:=[0,1,5],bx:=[],ex:=[],rt:=[4] }) I_4 X_5 h_25 (by exact rfl) ?_ ?_ ?_
  ·rw [I_4_]
   exact ⟨by simp [zac,zaa,h_1],by simp [zaa,h_1]⟩
  ·intro s_2 σ_6 a_3 hI hp
   rw [I_4_] at hI
   obtain ⟨q_8,q_7⟩:=hI
   try simp [h_1,q_8,q_7]
   rcases zad hp with ⟨h_9,hp⟩|⟨h_9,hp⟩
   ·try simp at h_9
    obtain ⟨e_10,h_11,hp⟩:=zab hp
    have b_12:=at_lo h_11
    have b_13:=at_hi h_11
    try simp at b_12 b_13
    have c_14:=seg_at' h_11 0 5 (by decide) (ds:=[.sc (.int .i64 e_10.from_),.sc (.int .i64 e_10.to_),.sc (.int .i64 e_10.stmt.kind),.sc (.string e_10.stmt.a),.sc (.string e_10.stmt.b)]) rfl
    try simp at c_14
    obtain ⟨e_15,h_16,hp⟩:=zab hp
    have b_17:=at_lo h_16
    have b_18:=at_hi h_16
    try simp at b_17 b_18
    have c_19:=seg_at' h_16 0 5 (by decide) (ds:=[.sc (.int .i64 e_15.from_),.sc (.int .i64 e_15.to_),.sc (.int .i64 e_15.stmt.kind),.sc (.string e_15.stmt.a),.sc (.string e_15.stmt.b)]) rfl
    try simp at c_19
    obtain ⟨y_20,h_21,hp⟩:=zab hp
    have c_22:=C109_eq h_21
    simp at c_22
    try simp [h_1,q_8,q_7,h_9,b_12,b_13,c_14,b_17,b_18,c_19,c_22]
    rcases zad hp with ⟨h_23,hp⟩|⟨h_23,hp⟩
    ·try simp at h_23
     cases hp
     try simp [h_1,q_8,q_7,h_9,h_23]
     refine zah ?_
     rw [I_4_]
     exact ⟨by simp [zac,zaa,h_1,q_8,q_7,h_9,h_23],by simp [zaa,h_1,q_8,q_7,h_9,h_23]⟩
    ·try simp at h_23
     cases hp
     try simp [h_1,q_8,q_7,h_9,h_23]
     refine zao ?_
     rw [X_5_]
     exact ⟨_,rfl,by simp [zac,zaa,h_1,q_8,q_7,h_9,h_23],by simp [zaa,h_1,q_8,q_7,h_9,h_23]⟩
   ·try simp at h_9
    cases hp
    try simp [h_1,q_8,q_7,h_9]
    refine zal ?_
    rw [X_5_]
    exact ⟨_,rfl,by simp [zaa,h_1,q_8,q_7,h_9]⟩
  ·intro out hX
   rw [X_5_] at hX
   rcases r_24 with r_24 | r_24
   ·simp only [Sum.elim_inl,Sum.elim_inr] at hX hp
    obtain ⟨σ_26,rfl,q_28,q_27⟩:=hX
    cases hp
    simp [Goal,FnEnd,h_1,q_28,q_27]
   ·simp only [Sum.elim_inl,Sum.elim_inr] at hX hp
    obtain ⟨σ_29,rfl,q_30⟩:=hX
    cases hp
    simp [Goal,FnEnd,h_1,q_30]
theorem pc59:PC Tryz.prog 59 C59:=pc_of (g:=g59) (zaj _ g59_s.2.1 ⟨pc109,trivial⟩) (ent Tryz.func59) fun x y h=>w59 h

def C16:List AV→Option AV:=specP (X:=TProgram × TProgram × Unit) fun x=>laws_eqProgram x.1 x.2.1
theorem C16_eq {a_ b_} {y} (h:laws_eqProgram a_ b_=some y):C16 [av .shr a_,av .shr b_]=some (Res.res y):=zai (x:=(a_,b_,())) h
def g16:Cfg:={ P:=Tryz.prog,take:=[],keep:=[],gho:=[],ctx:=[(58,C58),(59,C59)] }
@[simp] theorem g16_s:type_of% (cfg_s (g:=g16) rfl):=cfg_s rfl
theorem w16 {a_ b_} {y} (hp:laws_eqProgram a_ b_=some y):∃ m,callo g16 0 16 [av .shr a_,av .shr b_] mem0=some (Res.res y,m):=by
 refine st0 [.tmp 4] Tryz.func16 ?_
 unfold laws_eqProgram at hp
 obtain ⟨y_1,h_2,hp⟩:=zab hp
 have c_3:=C58_eq h_2
 simp at c_3
 simp [Tryz.f16,c_3]
 rcases zad hp with ⟨h_4,hp⟩|⟨h_4,hp⟩
 ·try simp at h_4
  try simp [h_4]
  rcases zad hp with ⟨h_5,hp⟩|⟨h_5,hp⟩
  ·try simp at h_5
   cases hp
   simp [Goal,FnEnd,h_4,h_5]
  ·try simp at h_5
   obtain ⟨y_6,h_7,hp⟩:=zab hp
   have c_8:=C59_eq h_7
   simp at c_8
   try simp [h_4,h_5,c_8]
   rcases zad hp with ⟨h_9,hp⟩|⟨h_9,hp⟩
   ·try simp at h_9
    cases hp
    simp [Goal,FnEnd,h_4,h_5,h_9]
   ·try simp at h_9
    cases hp
    simp [Goal,FnEnd,h_4,h_5,h_9]
 ·try simp at h_4
  cases hp
  simp [Goal,FnEnd,h_4]
theorem pc16:PC Tryz.prog 16 C16:=pc_of (g:=g16) (zaj _ g16_s.2.1 ⟨pc58,pc59,trivial⟩) (ent Tryz.func16) fun x y h=>w16 h

def C28:List AV→Option AV:=specP (X:=(List THeap) × (List THeap) × Unit) fun x=>laws_eqHeapS x.1 x.2.1
theorem C28_eq {a_ b_} {y} (h:laws_eqHeapS a_ b_=some y):C28 [av .shr a_,av .shr b_]=some (Res.res y):=zai (x:=(a_,b_,())) h
def g28:Cfg:={ P:=Tryz.prog,take:=[],keep:=[((28,4),{ hd:=[0,1,5],bx:=[],ex:=[],rt:=[4] })],gho:=[],ctx:=[(17,C17)] }
@[simp] theorem g28_s:type_of% (cfg_s (g:=g28) rfl):=cfg_s rfl
theorem w28 {a_ b_} {y} (hp:laws_eqHeapS a_ b_=some y):∃ m,callo g28 0 28 [av .shr a_,av .shr b_] mem0=some (Res.res y,m):=by
 refine st0 [.tmp 4] Tryz.func28 ?_
 unfold laws_eqHeapS at hp
 simp [Tryz.f28]
 rcases zad hp with ⟨h_1,hp⟩|⟨h_1,hp⟩
 ·try simp at h_1
  cases hp
  simp [Goal,FnEnd,h_1]
 ·try simp at h_1
  try simp [h_1]
  obtain ⟨r_24,h_25,hp⟩:=zab hp
  obtain ⟨I_4,I_4_⟩:=exV fun (s_2:Int) (σ:St)=>(σ.env 0=uL .shr a_∧σ.env 1=uL .shr b_∧σ.env 5=uI s_2)∧σ.mem=mem0
  obtain ⟨X_5,X_5_⟩:=exV fun (r_24:(Unit) ⊕ (Unit)) (out:Out)=>Sum.elim (fun r_24=>∃ σ:St,out=.ret σ∧σ.env 4=uB false∧σ.mem=mem0) (fun r_24=>∃ σ:St,out=.exit 0 σ∧σ.mem=mem0) r_24
  refine loopP ({ hd:=[0,1,5],bx:=[],ex:=[],rt:=[4] }) I_4 X_5 h_25 (by exact rfl) ?_ ?_ ?_
  ·rw [I_4_]
   exact ⟨by simp [zac,zaa,h_1],by simp [zaa,h_1]⟩
  ·intro s_2 σ_6 a_3 hI hp
   rw [I_4_] at hI
   obtain ⟨q_8,q_7⟩:=hI
   try simp [h_1,q_8,q_7]
   rcases zad hp with ⟨h_9,hp⟩|⟨h_9,hp⟩
   ·try simp at h_9
    obtain ⟨e_10,h_11,hp⟩:=zab hp
    have b_12:=at_lo h_11
    have b_13:=at_hi h_11
    try simp at b_12 b_13
    have c_14:=seg_at' h_11 0 2 (by decide) (ds:=[.sl e_10.vars.length (encL e_10.vars),.sl e_10.next.length (encL e_10.next)]) rfl
    try simp at c_14
    obtain ⟨e_15,h_16,hp⟩:=zab hp
    have b_17:=at_lo h_16
    have b_18:=at_hi h_16
    try simp at b_17 b_18
    have c_19:=seg_at' h_16 0 2 (by decide) (ds:=[.sl e_15.vars.length (encL e_15.vars),.sl e_15.next.length (encL e_15.next)]) rfl
    try simp at c_19
    obtain ⟨y_20,h_21,hp⟩:=zab hp
    have c_22:=C17_eq h_21
    simp at c_22
    try simp [h_1,q_8,q_7,h_9,b_12,b_13,c_14,b_17,b_18,c_19,c_22]
    rcases zad hp with ⟨h_23,hp⟩|⟨h_23,hp⟩
    ·try simp at h_23
     cases hp
     try simp [h_1,q_8,q_7,h_9,h_23]
     refine zah ?_
     rw [I_4_]
     exact ⟨by simp [zac,zaa,h_1,q_8,q_7,h_9,h_23],by simp [zaa,h_1,q_8,q_7,h_9,h_23]⟩
    ·try simp at h_23
     cases hp
     try simp [h_1,q_8,q_7,h_9,h_23]
     refine zao ?_
     rw [X_5_]
     exact ⟨_,rfl,by simp [zac,zaa,h_1,q_8,q_7,h_9,h_23],by simp [zaa,h_1,q_8,q_7,h_9,h_23]⟩
   ·try simp at h_9
    cases hp
    try simp [h_1,q_8,q_7,h_9]
    refine zal ?_
    rw [X_5_]
    exact ⟨_,rfl,by simp [zaa,h_1,q_8,q_7,h_9]⟩
  ·intro out hX
   rw [X_5_] at hX
   rcases r_24 with r_24 | r_24
   ·simp only [Sum.elim_inl,Sum.elim_inr] at hX hp
    obtain ⟨σ_26,rfl,q_28,q_27⟩:=hX
    cases hp
    simp [Goal,FnEnd,h_1,q_28,q_27]
   ·simp only [Sum.elim_inl,Sum.elim_inr] at hX hp
    obtain ⟨σ_29,rfl,q_30⟩:=hX
    cases hp
    simp [Goal,FnEnd,h_1,q_30]
theorem pc28:PC Tryz.prog 28 C28:=pc_of (g:=g28) (zaj _ g28_s.2.1 ⟨pc17,trivial⟩) (ent Tryz.func28) fun x y h=>w28 h

def C70:List AV→Option AV:=specP (X:=(List Int) × Int × Unit) fun x=>laws_heldIntS x.1 x.2.1
theorem C70_eq {a_ k_} {y} (h:laws_heldIntS a_ k_=some y):C70 [av .shr a_,av .shr k_]=some (Res.res y):=zai (x:=(a_,k_,())) h
def g70:Cfg:={ P:=Tryz.prog,take:=[],keep:=[((70,2),{ hd:=[0,1,5],bx:=[],ex:=[1],rt:=[4] })],gho:=[],ctx:=[] }
@[simp] theorem g70_s:type_of% (cfg_s (g:=g70) rfl):=cfg_s rfl
theorem w70 {a_ k_} {y} (hp:laws_heldIntS a_ k_=some y):∃ m,callo g70 0 70 [av .shr a_,av .shr k_] mem0=some (Res.res y,m):=by
 refine st0 [.tmp 4] Tryz.func70 ?_
 unfold laws_heldIntS at hp
 simp [Tryz.f70]
 obtain ⟨r_15,h_16,hp⟩:=zab hp
 obtain ⟨I_3,I_3_⟩:=exV fun (s_1:Int × Int) (σ:St)=>(σ.env 0=uL .shr a_∧σ.env 1=uI s_1.1∧σ.env 5=uI s_1.2)∧σ.mem=mem0
 obtain ⟨X_4,X_4_⟩:=exV fun (r_15:(Int) ⊕ (Int)) (out:Out)=>Sum.elim (fun r_15=>∃ σ:St,out=.ret σ∧σ.env 4=uI r_15∧σ.mem=mem0) (fun r_15=>∃ σ:St,out=.exit 0 σ∧σ.env 1=uI r_15∧σ.mem=mem0) r_15
 refine loopP ({ hd:=[0,1,5],bx:=[],ex:=[1],rt:=[4] }) I_3 X_4 h_16 (by exact rfl) ?_ ?_ ?_
 ·rw [I_3_]
  exact ⟨by simp [zac,zaa],by simp [zaa]⟩
 ·intro s_1 σ_5 a_2 hI hp
  rw [I_3_] at hI
  obtain ⟨q_7,q_6⟩:=hI
  try simp [q_7,q_6]
  rcases zad hp with ⟨h_8,hp⟩|⟨h_8,hp⟩
  ·try simp at h_8
   obtain ⟨e_9,h_10,hp⟩:=zab hp
   have b_11:=at_lo h_10
   have b_12:=at_hi h_10
   try simp at b_11 b_12
   have c_13:=seg_at' h_10 0 1 (by decide) (ds:=[.sc (.int .i64 e_9)]) rfl
   try simp at c_13
   try simp [q_7,q_6,h_8,b_11,b_12,c_13]
   rcases zad hp with ⟨h_14,hp⟩|⟨h_14,hp⟩
   ·try simp at h_14
    cases hp
    try simp [q_7,q_6,h_8,h_14]
    refine zao ?_
    rw [X_4_]
    exact ⟨_,rfl,by simp [zac,zaa,q_7,q_6,h_8,h_14],by simp [zaa,q_7,q_6,h_8,h_14]⟩
   ·try simp at h_14
    cases hp
    try simp [q_7,q_6,h_8,h_14]
    refine zah ?_
    rw [I_3_]
    exact ⟨by simp [zac,zaa,q_7,q_6,h_8,h_14],by simp [zaa,q_7,q_6,h_8,h_14]⟩
  ·try simp at h_8
   cases hp
   try simp [q_7,q_6,h_8]
   refine zal ?_
   rw [X_4_]
   exact ⟨_,rfl,by simp [zac,zaa,q_7,q_6,h_8],by simp [zaa,q_7,q_6,h_8]⟩
 ·intro out hX
  rw [X_4_] at hX
  rcases r_15 with r_15 | r_15
  ·simp only [Sum.elim_inl,Sum.elim_inr] at hX hp
   obtain ⟨σ_17,rfl,q_19,q_18⟩:=hX
   cases hp
   simp [Goal,FnEnd,q_19,q_18]
  ·simp only [Sum.elim_inl,Sum.elim_inr] at hX hp
   obtain ⟨σ_20,rfl,q_22,q_21⟩:=hX
   cases hp
   simp [Goal,FnEnd,q_22,q_21]
theorem pc70:PC Tryz.prog 70 C70:=pc_of (g:=g70) (zaj [] rfl trivial) (ent Tryz.func70) fun x y h=>w70 h

def C62:List AV→Option AV:=specP (X:=THeap × Int × Unit) fun x=>laws_heldHeap x.1 x.2.1
theorem C62_eq {a_ k_} {y} (h:laws_heldHeap a_ k_=some y):C62 [av .shr a_,av .shr k_]=some (Res.res y):=zai (x:=(a_,k_,())) h
def g62:Cfg:={ P:=Tryz.prog,take:=[],keep:=[],gho:=[],ctx:=[(70,C70)] }
@[simp] theorem g62_s:type_of% (cfg_s (g:=g62) rfl):=cfg_s rfl
theorem w62 {a_ k_} {y} (hp:laws_heldHeap a_ k_=some y):∃ m,callo g62 0 62 [av .shr a_,av .shr k_] mem0=some (Res.res y,m):=by
 refine st0 [.tmp 4] Tryz.func62 ?_
 unfold laws_heldHeap at hp
 obtain ⟨y_1,h_2,hp⟩:=zab hp
 have c_3:=C70_eq h_2
 simp at c_3
 simp [Tryz.f62,c_3]
 rcases zad hp with ⟨h_4,hp⟩|⟨h_4,hp⟩
 ·try simp at h_4
  cases hp
  simp [Goal,FnEnd,h_4]
 ·try simp at h_4
  obtain ⟨y_5,h_6,hp⟩:=zab hp
  have c_7:=C70_eq h_6
  simp at c_7
  try simp [h_4,c_7]
  rcases zad hp with ⟨h_8,hp⟩|⟨h_8,hp⟩
  ·try simp at h_8
   cases hp
   simp [Goal,FnEnd,h_4,h_8]
  ·try simp at h_8
   cases hp
   simp [Goal,FnEnd,h_4,h_8]
theorem pc62:PC Tryz.prog 62 C62:=pc_of (g:=g62) (zaj _ g62_s.2.1 ⟨pc70,trivial⟩) (ent Tryz.func62) fun x y h=>w62 h

def C39:List AV→Option AV:=specP (X:=TFailure × Int × Unit) fun x=>laws_heldFailure x.1 x.2.1
theorem C39_eq {a_ k_} {y} (h:laws_heldFailure a_ k_=some y):C39 [av .shr a_,av .shr k_]=some (Res.res y):=zai (x:=(a_,k_,())) h
def g39:Cfg:={ P:=Tryz.prog,take:=[],keep:=[],gho:=[],ctx:=[(62,C62),(70,C70)] }
@[simp] theorem g39_s:type_of% (cfg_s (g:=g39) rfl):=cfg_s rfl
theorem w39 {a_ k_} {y} (hp:laws_heldFailure a_ k_=some y):∃ m,callo g39 0 39 [av .shr a_,av .shr k_] mem0=some (Res.res y,m):=by
 refine st0 [.tmp 4] Tryz.func39 ?_
 unfold laws_heldFailure at hp
 obtain ⟨y_1,h_2,hp⟩:=zab hp
 have c_3:=C62_eq h_2
 simp at c_3
 simp [Tryz.f39,c_3]
 rcases zad hp with ⟨h_4,hp⟩|⟨h_4,hp⟩
 ·try simp at h_4
  cases hp
  simp [Goal,FnEnd,h_4]
 ·try simp at h_4
  obtain ⟨y_5,h_6,hp⟩:=zab hp
  have c_7:=C70_eq h_6
  simp at c_7
  try simp [h_4,c_7]
  rcases zad hp with ⟨h_8,hp⟩|⟨h_8,hp⟩
  ·try simp at h_8
   cases hp
   simp [Goal,FnEnd,h_4,h_8]
  ·try simp at h_8
   cases hp
   simp [Goal,FnEnd,h_4,h_8]
theorem pc39:PC Tryz.prog 39 C39:=pc_of (g:=g39) (zaj _ g39_s.2.1 ⟨pc62,pc70,trivial⟩) (ent Tryz.func39) fun x y h=>w39 h

def C7:List AV→Option AV:=specP (X:=TProgram × (List THeap) × TAlarm × Unit) fun x=>laws_FnExactConfirmAlarm x.1 x.2.1 x.2.2.1
theorem C7_eq {aP aStart aA} {y} (h:laws_FnExactConfirmAlarm aP aStart aA=some y):C7 [av .shr aP,av .shr aStart,av .shr aA]=some (Res.res y):=zai (x:=(aP,aStart,aA,())) h
def g7:Cfg:={ P:=Tryz.prog,take:=[(7,29),(7,43),(7,100)],keep:=[((60,2),rowKp),((61,2),rowKp),((32,2),rowKp),((21,2),rowKp)],gho:=[((7,19),[.many (thawBox 1 10)]),((7,2000019),[.many (frzBox 1 10)]),((7,20),[.many (thawSlot 1 11)]),((7,2000020),[.many (frzSlot 1 11)]),((7,24),[.many (thawBox 1 12)]),((7,2000024),[.many (frzBox 1 12)])],ctx:=[(8,C8),(11,C11),(16,C16),(24,C24),(26,C26),(28,C28),(37,C37),(39,C39),(40,C40),(41,C41),(42,C42),(110,C110)] }
@[simp] theorem g7_s:type_of% (cfg_s (g:=g7) rfl):=cfg_s rfl
theorem w7 {aP aStart aA} {y} (hp:laws_FnExactConfirmAlarm aP aStart aA=some y):∃ m,callo g7 0 7 [av .shr aP,av .shr aStart,av .shr aA] mem0=some (Res.res y,m):=by
 have G_19:G19 g7:=⟨rfl,by kernel_rfl,rfl,fun t=>by simp,noAway (fun t=>by simp) (by simp) (fun t=>by simp),by simp [lookN],fun i=>by simp [lookK],by simp [g7,lookK],by simp⟩
 have G_60:G60 g7:=⟨rfl,by kernel_rfl,rfl,fun t=>by simp,noAway (fun t=>by simp) (by simp) (fun t=>by simp),by simp [lookN],fun i=>by simp [lookK],by simp [g7,lookK],by simp⟩
 have G_61:G61 g7:=⟨rfl,by kernel_rfl,rfl,fun t=>by simp,noAway (fun t=>by simp) (by simp) (fun t=>by simp),by simp [lookN],fun i=>by simp [lookK],by simp [g7,lookK],by simp⟩
 have G_32:G32 g7:=⟨rfl,by kernel_rfl,rfl,fun t=>by simp,noAway (fun t=>by simp) (by simp) (fun t=>by simp),by simp [lookN],fun i=>by simp [lookK],by simp [g7,lookK],by simp⟩
 have G_21:G21 g7:=⟨rfl,by kernel_rfl,rfl,fun t=>by simp,noAway (fun t=>by simp) (by simp) (fun t=>by simp),by simp [lookN],fun i=>by simp [lookK],by simp [g7,lookK],by simp⟩
 have G_38:G38 g7:=⟨rfl,by kernel_rfl,rfl,fun t=>by simp,noAway (fun t=>by simp) (by simp) (fun t=>by simp),by simp [lookN],fun i=>by simp [lookK],by simp [g7,lookK],by simp⟩
 have G_20:G20 g7:=⟨rfl,by kernel_rfl,rfl,fun t=>by simp,noAway (fun t=>by simp) (by simp) (fun t=>by simp),by simp [lookN],fun i=>by simp [lookK],by simp [g7,lookK],by simp⟩
 refine st0 [.tmp 6] Tryz.func7 ?_
 unfold laws_FnExactConfirmAlarm at hp
 obtain ⟨y_1,h_2,hp⟩:=zab hp
 have c_3:=C8_eq h_2
 simp at c_3
 simp [Tryz.f7,c_3]
 rcases zad hp with ⟨h_4,hp⟩|⟨h_4,hp⟩
 ·try simp at h_4
  cases hp
  simp [Goal,FnEnd,h_4]
 ·try simp at h_4
  obtain ⟨y_5,h_6,hp⟩:=zab hp
  have c_7:=C24_eq h_6
  simp at c_7
  try simp [h_4,c_7]
  rcases zad hp with ⟨h_8,hp⟩|⟨h_8,hp⟩
  ·try simp at h_8
   cases hp
   simp [Goal,FnEnd,h_4,h_8]
  ·try simp at h_8
   obtain ⟨y_9,h_10,hp⟩:=zab hp
   have c_11:=C11_eq h_10
   simp at c_11
   obtain ⟨y_12,h_13,hp⟩:=zab hp
   have c_14:=C26_eq h_13
   simp at c_14
   obtain ⟨y_15,h_16,hp⟩:=zab hp
   have c_17:=C41_eq h_16
   simp at c_17
   obtain ⟨y_18,h_19,hp⟩:=zab hp
   have c_20:=C40_eq h_19
   simp at c_20
   obtain ⟨y_21,h_22,hp⟩:=zab hp
   cases Option.some.inj (h_10.symm.trans h_22)
   obtain ⟨y_23,h_24,hp⟩:=zab hp
   cases Option.some.inj (h_13.symm.trans h_24)
   obtain ⟨y_25,h_26,hp⟩:=zab hp
   cases Option.some.inj (h_16.symm.trans h_26)
   obtain ⟨y_27,h_28,hp⟩:=zab hp
   have c_29:=C42_eq h_28
   simp at c_29
   obtain ⟨y_30,h_31,hp⟩:=zab hp
   have c_32:=C37_eq h_31
   simp at c_32
   try simp [h_4,h_8,c_11,c_14,c_17,c_20,c_11,c_14,c_17,c_29,c_32]
   rcases zad hp with ⟨h_33,hp⟩|⟨h_33,hp⟩
   ·try simp at h_33
    try simp [h_4,h_8,h_33]
    rcases zad hp with ⟨h_34,hp⟩|⟨h_34,hp⟩
    ·try simp at h_34
     cases hp
     simp [Goal,FnEnd,h_4,h_8,h_33,h_34]
    ·try simp at h_34
     obtain ⟨y_35,h_36,hp⟩:=zab hp
     cases Option.some.inj (h_10.symm.trans h_36)
     obtain ⟨y_37,h_38,hp⟩:=zab hp
     have c_39:=C16_eq h_38
     simp at c_39
     try simp [h_4,h_8,h_33,h_34,c_11,c_39]
     rcases zad hp with ⟨h_40,hp⟩|⟨h_40,hp⟩
     ·try simp at h_40
      obtain ⟨y_41,h_42,hp⟩:=zab hp
      cases Option.some.inj (h_13.symm.trans h_42)
      obtain ⟨y_43,h_44,hp⟩:=zab hp
      have c_45:=C28_eq h_44
      simp at c_45
      try simp [h_4,h_8,h_33,h_34,h_40,c_14,c_45]
      rcases zad hp with ⟨h_46,hp⟩|⟨h_46,hp⟩
      ·try simp at h_46
       obtain ⟨r_47,h_48,hp⟩:=zab hp
       obtain ⟨lg_49,e_50⟩:=markO_eq h_48
       have mk_51:=mk19 G_19 G_60 G_61 y_9 1 lg_49
       rw [e_50] at mk_51
       try simp [h_4,h_8,h_33,h_34,h_40,h_46]
       refine goal_markB 10 10 14 70 71 72 19 mk_51 (show ti g7.P 38=some _ from ti_38) rfl rfl (by decide) (by simp [h_4,h_8,h_33,h_34,h_40,h_46]) (by simp [h_4,h_8,h_33,h_34,h_40,h_46]) (by simp [h_4,h_8,h_33,h_34,h_40,h_46]) (WfE.wfE _) (WfE.wfE _) (fun key hkey=>by simp [mem0,key_low hkey 1 3 (by decide),key_low hkey 1 5 (by decide),key_low hkey 1 8 (by decide),key_low hkey 1 10 (by decide),key_low hkey 1 12 (by decide),h_4,h_8,h_33,h_34,h_40,h_46]) (by simp) (by simp) (by simp) rfl (by decide) fun σ_52 qq_53 hq_54 hx_55 hk_56 he_57 hd_58 hm_59=>?_
       obtain ⟨q_60,q_61,q_62,q_63,q_64,q_65,q_66,q_67,q_68,q_69,q_70,q_71,q_72,q_73⟩:σ_52.env 1=uL .shr aStart∧σ_52.env 3=uP (1,3)∧σ_52.env 5=uP (1,5)∧σ_52.env 8=uP (1,8)∧σ_52.env 9=uB y_18.2∧σ_52.env 11=uL .own y_12∧σ_52.env 12=uP (1,12)∧σ_52.env 13=uB y_27.2∧σ_52.env 14=uI r_47.2∧σ_52.mem (1,3)=some [cL .shr aP.vars,cI aP.points,cL .shr aP.edges]∧σ_52.mem (1,5)=some [cI aA.edge,cI aA.code]∧σ_52.mem (1,8)=some [cL .own y_18.1.heap.vars,cL .own y_18.1.heap.next,cL .own y_18.1.edges,cI y_18.1.code]∧σ_52.mem (1,10)=some [cL .own r_47.1.vars,cI r_47.1.points,cL .own r_47.1.edges]∧σ_52.mem (1,12)=some [cL .own y_27.1.heap.vars,cL .own y_27.1.heap.next,cL .own y_27.1.edges,cI y_27.1.code]:=by refine ⟨(he_57 1 (by decide) (by decide) (by decide) (by decide)).trans ?_,(he_57 3 (by decide) (by decide) (by decide) (by decide)).trans ?_,(he_57 5 (by decide) (by decide) (by decide) (by decide)).trans ?_,(he_57 8 (by decide) (by decide) (by decide) (by decide)).trans ?_,(he_57 9 (by decide) (by decide) (by decide) (by decide)).trans ?_,(he_57 11 (by decide) (by decide) (by decide) (by decide)).trans ?_,(he_57 12 (by decide) (by decide) (by decide) (by decide)).trans ?_,(he_57 13 (by decide) (by decide) (by decide) (by decide)).trans ?_,hk_56,(hm_59 (1,3) (by decide) (by decide) (by decide)).trans ?_,(hm_59 (1,5) (by decide) (by decide) (by decide)).trans ?_,(hm_59 (1,8) (by decide) (by decide) (by decide)).trans ?_,hx_55.trans (by simp),(hm_59 (1,12) (by decide) (by decide) (by decide)).trans ?_⟩ <;> simp [h_4,h_8,h_33,h_34,h_40,h_46,hq_54 (1,3) (by decide) (by decide),hq_54 (1,5) (by decide) (by decide),hq_54 (1,8) (by decide) (by decide),hq_54 (1,10) (by decide) (by decide),hq_54 (1,12) (by decide) (by decide)]
       have hn_74:NoBox [(1,3),(1,5),(1,8),(1,10),(1,12)] σ_52.mem:=by
        intro key hk
        by_cases hl:1 < key.1∨bigK≤key.2
        ·exact hd_58 key hl
        ·rw [hm_59 key (by rintro rfl;simp at hk) (by omega) (by omega)]
         simp at hk
         simp [mem0,hk,h_4,h_8,h_33,h_34,h_40,h_46]
       obtain ⟨r_75,h_76,hp⟩:=zab hp
       obtain ⟨lg_77,e_78⟩:=markO_eq h_76
       have mk_79:=mk32 G_32 G_21 y_12 r_47.2 lg_77
       rw [e_78] at mk_79
       try simp [h_4,h_8,h_33,h_34,h_40,h_46,q_60,q_61,q_62,q_63,q_64,q_65,q_66,q_67,q_68,q_69,q_70,q_71,q_72,q_73]
       refine goal_mark 11 14 73 74 75 32 mk_79 (by simp [h_4,h_8,h_33,h_34,h_40,h_46,q_60,q_61,q_62,q_63,q_64,q_65,q_66,q_67,q_68,q_69,q_70,q_71,q_72,q_73]) (fun _=>rfl) (by simp [h_4,h_8,h_33,h_34,h_40,h_46,q_60,q_61,q_62,q_63,q_64,q_65,q_66,q_67,q_68,q_69,q_70,q_71,q_72,q_73]) (WfE.wfE _) (WfE.wfE _) (fun key hkey=>by simp [mem0,key_low hkey 1 3 (by decide),key_low hkey 1 5 (by decide),key_low hkey 1 8 (by decide),key_low hkey 1 10 (by decide),key_low hkey 1 12 (by decide),h_4,h_8,h_33,h_34,h_40,h_46,q_60,q_61,q_62,q_63,q_64,q_65,q_66,q_67,q_68,q_69,q_70,q_71,q_72,q_73,hn_74 key (by simp [key_low hkey 1 3 (by decide),key_low hkey 1 5 (by decide),key_low hkey 1 8 (by decide),key_low hkey 1 10 (by decide),key_low hkey 1 12 (by decide)])]) (by simp) (by simp) (by simp) rfl (by decide) fun σ_80 qq_81 hq_82 hx_83 hk_84 he_85 hd_86 hm_87=>?_
       obtain ⟨q_88,q_89,q_90,q_91,q_92,q_93,q_94,q_95,q_96,q_97,q_98,q_99,q_100⟩:σ_80.env 1=uL .shr aStart∧σ_80.env 3=uP (1,3)∧σ_80.env 5=uP (1,5)∧σ_80.env 8=uP (1,8)∧σ_80.env 9=uB y_18.2∧σ_80.env 12=uP (1,12)∧σ_80.env 13=uB y_27.2∧σ_80.env 14=uI r_75.2∧σ_80.mem (1,3)=some [cL .shr aP.vars,cI aP.points,cL .shr aP.edges]∧σ_80.mem (1,5)=some [cI aA.edge,cI aA.code]∧σ_80.mem (1,8)=some [cL .own y_18.1.heap.vars,cL .own y_18.1.heap.next,cL .own y_18.1.edges,cI y_18.1.code]∧σ_80.mem (1,10)=some [cL .own r_47.1.vars,cI r_47.1.points,cL .own r_47.1.edges]∧σ_80.mem (1,12)=some [cL .own y_27.1.heap.vars,cL .own y_27.1.heap.next,cL .own y_27.1.edges,cI y_27.1.code]:=by refine ⟨(he_85 1 (by decide) (by decide) (by decide) (by decide) (by decide)).trans ?_,(he_85 3 (by decide) (by decide) (by decide) (by decide) (by decide)).trans ?_,(he_85 5 (by decide) (by decide) (by decide) (by decide) (by decide)).trans ?_,(he_85 8 (by decide) (by decide) (by decide) (by decide) (by decide)).trans ?_,(he_85 9 (by decide) (by decide) (by decide) (by decide) (by decide)).trans ?_,(he_85 12 (by decide) (by decide) (by decide) (by decide) (by decide)).trans ?_,(he_85 13 (by decide) (by decide) (by decide) (by decide) (by decide)).trans ?_,hk_84,(hm_87 (1,3) (by decide) (by decide)).trans ?_,(hm_87 (1,5) (by decide) (by decide)).trans ?_,(hm_87 (1,8) (by decide) (by decide)).trans ?_,(hm_87 (1,10) (by decide) (by decide)).trans ?_,(hm_87 (1,12) (by decide) (by decide)).trans ?_⟩ <;> simp [h_4,h_8,h_33,h_34,h_40,h_46,q_60,q_61,q_62,q_63,q_64,q_65,q_66,q_67,q_68,q_69,q_70,q_71,q_72,q_73,hq_82 (1,3) (by decide) (by decide),hq_82 (1,5) (by decide) (by decide),hq_82 (1,8) (by decide) (by decide),hq_82 (1,10) (by decide) (by decide),hq_82 (1,12) (by decide) (by decide)]
       have hn_101:NoBox [(1,3),(1,5),(1,8),(1,10),(1,12)] σ_80.mem:=by
        intro key hk
        by_cases hl:1 < key.1∨bigK≤key.2
        ·exact hd_86 key hl
        ·rw [hm_87 key (by omega) (by omega)]
         simp at hk
         simp [mem0,hk,h_4,h_8,h_33,h_34,h_40,h_46,q_60,q_61,q_62,q_63,q_64,q_65,q_66,q_67,q_68,q_69,q_70,q_71,q_72,q_73,hn_74 key (by simp [hk])]
       try simp [h_4,h_8,h_33,h_34,h_40,h_46,q_88,q_89,q_90,q_91,q_92,q_93,q_94,q_95,q_96,q_97,q_98,q_99,q_100]
       rcases zad hp with ⟨h_102,hp⟩|⟨h_102,hp⟩
       ·try simp at h_102
        cases hp
        simp [Goal,FnEnd,h_4,h_8,h_33,h_34,h_40,h_46,q_88,q_89,q_90,q_91,q_92,q_93,q_94,q_95,q_96,q_97,q_98,q_99,q_100,h_102]
       ·try simp at h_102
        obtain ⟨y_103,h_104,hp⟩:=zab hp
        have c_105:=C37_eq h_104
        simp at c_105
        try simp [h_4,h_8,h_33,h_34,h_40,h_46,q_88,q_89,q_90,q_91,q_92,q_93,q_94,q_95,q_96,q_97,q_98,q_99,q_100,h_102,c_105]
        rcases zad hp with ⟨h_106,hp⟩|⟨h_106,hp⟩
        ·try simp at h_106
         obtain ⟨r_107,h_108,hp⟩:=zab hp
         obtain ⟨lg_109,e_110⟩:=markO_eq h_108
         have mk_111:=mk38 G_38 G_20 G_21 y_27.1 1 lg_109
         rw [e_110] at mk_111
         try simp [h_4,h_8,h_33,h_34,h_40,h_46,q_88,q_89,q_90,q_91,q_92,q_93,q_94,q_95,q_96,q_97,q_98,q_99,q_100,h_102,h_106]
         refine goal_markB 12 12 15 89 90 91 38 mk_111 (show ti g7.P 65=some _ from ti_65) rfl rfl (by decide) (by simp [h_4,h_8,h_33,h_34,h_40,h_46,q_88,q_89,q_90,q_91,q_92,q_93,q_94,q_95,q_96,q_97,q_98,q_99,q_100,h_102,h_106]) (by simp [h_4,h_8,h_33,h_34,h_40,h_46,q_88,q_89,q_90,q_91,q_92,q_93,q_94,q_95,q_96,q_97,q_98,q_99,q_100,h_102,h_106]) (by simp [h_4,h_8,h_33,h_34,h_40,h_46,q_88,q_89,q_90,q_91,q_92,q_93,q_94,q_95,q_96,q_97,q_98,q_99,q_100,h_102,h_106]) (WfE.wfE _) (WfE.wfE _) (fun key hkey=>by simp [mem0,key_low hkey 1 3 (by decide),key_low hkey 1 5 (by decide),key_low hkey 1 8 (by decide),key_low hkey 1 10 (by decide),key_low hkey 1 12 (by decide),h_4,h_8,h_33,h_34,h_40,h_46,q_88,q_89,q_90,q_91,q_92,q_93,q_94,q_95,q_96,q_97,q_98,q_99,q_100,h_102,h_106,hn_101 key (by simp [key_low hkey 1 3 (by decide),key_low hkey 1 5 (by decide),key_low hkey 1 8 (by decide),key_low hkey 1 10 (by decide),key_low hkey 1 12 (by decide)])]) (by simp) (by simp) (by simp) rfl (by decide) fun σ_112 qq_113 hq_114 hx_115 hk_116 he_117 hd_118 hm_119=>?_
         obtain ⟨q_120,q_121,q_122,q_123,q_124,q_125,q_126,q_127,q_128,q_129,q_130,q_131⟩:σ_112.env 1=uL .shr aStart∧σ_112.env 3=uP (1,3)∧σ_112.env 5=uP (1,5)∧σ_112.env 8=uP (1,8)∧σ_112.env 9=uB y_18.2∧σ_112.env 12=uP (1,12)∧σ_112.env 15=uI r_107.2∧σ_112.mem (1,3)=some [cL .shr aP.vars,cI aP.points,cL .shr aP.edges]∧σ_112.mem (1,5)=some [cI aA.edge,cI aA.code]∧σ_112.mem (1,8)=some [cL .own y_18.1.heap.vars,cL .own y_18.1.heap.next,cL .own y_18.1.edges,cI y_18.1.code]∧σ_112.mem (1,10)=some [cL .own r_47.1.vars,cI r_47.1.points,cL .own r_47.1.edges]∧σ_112.mem (1,12)=some [cL .own r_107.1.heap.vars,cL .own r_107.1.heap.next,cL .own r_107.1.edges,cI r_107.1.code]:=by refine ⟨(he_117 1 (by decide) (by decide) (by decide) (by decide)).trans ?_,(he_117 3 (by decide) (by decide) (by decide) (by decide)).trans ?_,(he_117 5 (by decide) (by decide) (by decide) (by decide)).trans ?_,(he_117 8 (by decide) (by decide) (by decide) (by decide)).trans ?_,(he_117 9 (by decide) (by decide) (by decide) (by decide)).trans ?_,(he_117 12 (by decide) (by decide) (by decide) (by decide)).trans ?_,hk_116,(hm_119 (1,3) (by decide) (by decide) (by decide)).trans ?_,(hm_119 (1,5) (by decide) (by decide) (by decide)).trans ?_,(hm_119 (1,8) (by decide) (by decide) (by decide)).trans ?_,(hm_119 (1,10) (by decide) (by decide) (by decide)).trans ?_,hx_115.trans (by simp)⟩ <;> simp [h_4,h_8,h_33,h_34,h_40,h_46,q_88,q_89,q_90,q_91,q_92,q_93,q_94,q_95,q_96,q_97,q_98,q_99,q_100,h_102,h_106,hq_114 (1,3) (by decide) (by decide),hq_114 (1,5) (by decide) (by decide),hq_114 (1,8) (by decide) (by decide),hq_114 (1,10) (by decide) (by decide),hq_114 (1,12) (by decide) (by decide)]
         have hn_132:NoBox [(1,3),(1,5),(1,8),(1,10),(1,12)] σ_112.mem:=by
          intro key hk
          by_cases hl:1 < key.1∨bigK≤key.2
          ·exact hd_118 key hl
          ·rw [hm_119 key (by rintro rfl;simp at hk) (by omega) (by omega)]
           simp at hk
           simp [mem0,hk,h_4,h_8,h_33,h_34,h_40,h_46,q_88,q_89,q_90,q_91,q_92,q_93,q_94,q_95,q_96,q_97,q_98,q_99,q_100,h_102,h_106,hn_101 key (by simp [hk])]
         obtain ⟨y_133,h_134,hp⟩:=zab hp
         have c_135:=C39_eq h_134
         simp at c_135
         try simp [h_4,h_8,h_33,h_34,h_40,h_46,h_102,h_106,q_120,q_121,q_122,q_123,q_124,q_125,q_126,q_127,q_128,q_129,q_130,q_131,c_135]
         rcases zad hp with ⟨h_136,hp⟩|⟨h_136,hp⟩
         ·try simp at h_136
          cases hp
          simp [Goal,FnEnd,h_4,h_8,h_33,h_34,h_40,h_46,h_102,h_106,q_120,q_121,q_122,q_123,q_124,q_125,q_126,q_127,q_128,q_129,q_130,q_131,h_136]
         ·try simp at h_136
          try simp [h_4,h_8,h_33,h_34,h_40,h_46,h_102,h_106,q_120,q_121,q_122,q_123,q_124,q_125,q_126,q_127,q_128,q_129,q_130,q_131,h_136]
          rcases zad hp with ⟨h_137,hp⟩|⟨h_137,hp⟩
          ·try simp at h_137
           cases hp
           simp [Goal,FnEnd,h_4,h_8,h_33,h_34,h_40,h_46,h_102,h_106,q_120,q_121,q_122,q_123,q_124,q_125,q_126,q_127,q_128,q_129,q_130,q_131,h_136,h_137]
          ·try simp at h_137
           obtain ⟨y_138,h_139,hp⟩:=zab hp
           have c_140:=C11_eq h_139
           simp at c_140
           obtain ⟨y_141,h_142,hp⟩:=zab hp
           have c_143:=C26_eq h_142
           simp at c_143
           obtain ⟨y_144,h_145,hp⟩:=zab hp
           have c_146:=C41_eq h_145
           simp at c_146
           obtain ⟨y_147,h_148,hp⟩:=zab hp
           have c_149:=C42_eq h_148
           simp at c_149
           have n_150:=hn_132 (1,17) (by simp)
           obtain ⟨y_151,h_152,hp⟩:=zab hp
           have c_153:=C37_eq h_152
           simp at c_153
           try simp [h_4,h_8,h_33,h_34,h_40,h_46,h_102,h_106,q_120,q_121,q_122,q_123,q_124,q_125,q_126,q_127,q_128,q_129,q_130,q_131,h_136,h_137,c_140,c_143,c_146,c_149,n_150,c_153]
           rcases zad hp with ⟨h_154,hp⟩|⟨h_154,hp⟩
           ·try simp at h_154
            try simp [h_4,h_8,h_33,h_34,h_40,h_46,h_102,h_106,q_120,q_121,q_122,q_123,q_124,q_125,q_126,q_127,q_128,q_129,q_130,q_131,h_136,h_137,h_154]
            rcases zad hp with ⟨h_155,hp⟩|⟨h_155,hp⟩
            ·try simp at h_155
             cases hp
             simp [Goal,FnEnd,h_4,h_8,h_33,h_34,h_40,h_46,h_102,h_106,q_120,q_121,q_122,q_123,q_124,q_125,q_126,q_127,q_128,q_129,q_130,q_131,h_136,h_137,h_154,h_155]
            ·try simp at h_155
             obtain ⟨y_156,h_157,hp⟩:=zab hp
             cases Option.some.inj (h_134.symm.trans h_157)
             cases hp
             simp [Goal,FnEnd,h_4,h_8,h_33,h_34,h_40,h_46,h_102,h_106,q_120,q_121,q_122,q_123,q_124,q_125,q_126,q_127,q_128,q_129,q_130,q_131,h_136,h_137,h_154,h_155,c_135]
           ·try simp at h_154
            cases hp
            simp [Goal,FnEnd,h_4,h_8,h_33,h_34,h_40,h_46,h_102,h_106,q_120,q_121,q_122,q_123,q_124,q_125,q_126,q_127,q_128,q_129,q_130,q_131,h_136,h_137,h_154]
        ·try simp at h_106
         cases hp
         simp [Goal,FnEnd,h_4,h_8,h_33,h_34,h_40,h_46,q_88,q_89,q_90,q_91,q_92,q_93,q_94,q_95,q_96,q_97,q_98,q_99,q_100,h_102,h_106]
      ·try simp at h_46
       cases hp
       simp [Goal,FnEnd,h_4,h_8,h_33,h_34,h_40,h_46]
     ·try simp at h_40
      cases hp
      simp [Goal,FnEnd,h_4,h_8,h_33,h_34,h_40]
   ·try simp at h_33
    cases hp
    simp [Goal,FnEnd,h_4,h_8,h_33]
theorem pc7:PC Tryz.prog 7 C7:=pc_of (g:=g7) (zaj _ g7_s.2.1 ⟨pc8,pc11,pc16,pc24,pc26,pc28,pc37,pc39,pc40,pc41,pc42,pc110,trivial⟩) (ent Tryz.func7) fun x y h=>w7 h
end Go.Proofs

