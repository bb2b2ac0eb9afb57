import Derived.Test.YtmmliafoddlgfaaGreatEvA18
set_option linter.unusedSimpArgs false
set_option linter.unusedVariables false
set_option linter.unnecessarySimpa false
noncomputable section
set_option maxHeartbeats 4000000
set_option maxRecDepth 100000
namespace Go.Proofs
open Go.Ev
def C18:List AV→Option AV:=specP (X:=(List Int) × (List Int) × Unit) fun x=>laws_eqIntS x.1 x.2.1
theorem C18_eq {a_ b_} {y} (h:laws_eqIntS a_ b_=some y):C18 [av .shr a_,av .shr b_]=some (Res.res y):=zai (x:=(a_,b_,())) h
def g18:Cfg:={ P:=Tryz.prog,take:=[],keep:=[((18,4),{ hd:=[0,1,5],bx:=[],ex:=[],rt:=[4] })],gho:=[],ctx:=[] }
@[simp] theorem g18_s:type_of% (cfg_s (g:=g18) rfl):=cfg_s rfl
theorem w18 {a_ b_} {y} (hp:laws_eqIntS a_ b_=some y):∃ m,callo g18 0 18 [av .shr a_,av .shr b_] mem0=some (Res.res y,m):=by
 refine st0 [.tmp 4] Tryz.func18 ?_
 unfold laws_eqIntS at hp
 simp [Tryz.f18]
 rcases zad hp with ⟨h_1,hp⟩|⟨h_1,hp⟩
 ·try simp at h_1
  cases hp
  simp [Goal,FnEnd,h_1]
 ·try simp at h_1
  try simp [h_1]
  obtain ⟨r_21,h_22,hp⟩:=zab hp
  obtain ⟨I_4,I_4_⟩:=exV fun (s_2:Int) (σ:St)=>(σ.env 0=uL .shr a_∧σ.env 1=uL .shr b_∧σ.env 5=uI s_2)∧σ.mem=mem0
  obtain ⟨X_5,X_5_⟩:=exV fun (r_21:(Unit) ⊕ (Unit)) (out:Out)=>Sum.elim (fun r_21=>∃ σ:St,out=.ret σ∧σ.env 4=uB false∧σ.mem=mem0) (fun r_21=>∃ σ:St,out=.exit 0 σ∧σ.mem=mem0) r_21
  refine loopP ({ hd:=[0,1,5],bx:=[],ex:=[],rt:=[4] }) I_4 X_5 h_22 (by exact rfl) ?_ ?_ ?_
  ·rw [I_4_]
   exact ⟨by simp [zac,zaa,h_1],by simp [zaa,h_1]⟩
  ·intro s_2 σ_6 a_3 hI hp
   rw [I_4_] at hI
   obtain ⟨q_8,q_7⟩:=hI
   try simp [h_1,q_8,q_7]
   rcases zad hp with ⟨h_9,hp⟩|⟨h_9,hp⟩
   ·try simp at h_9
    obtain ⟨e_10,h_11,hp⟩:=zab hp
    have b_12:=at_lo h_11
    have b_13:=at_hi h_11
    try simp at b_12 b_13
    have c_14:=seg_at' h_11 0 1 (by decide) (ds:=[.sc (.int .i64 e_10)]) rfl
    try simp at c_14
    obtain ⟨e_15,h_16,hp⟩:=zab hp
    have b_17:=at_lo h_16
    have b_18:=at_hi h_16
    try simp at b_17 b_18
    have c_19:=seg_at' h_16 0 1 (by decide) (ds:=[.sc (.int .i64 e_15)]) rfl
    try simp at c_19
    try simp [h_1,q_8,q_7,h_9,b_12,b_13,c_14,b_17,b_18,c_19]
    rcases zad hp with ⟨h_20,hp⟩|⟨h_20,hp⟩
    ·try simp at h_20
     cases hp
     try simp [h_1,q_8,q_7,h_9,h_20]
     refine zao ?_
     rw [X_5_]
     exact ⟨_,rfl,by simp [zac,zaa,h_1,q_8,q_7,h_9,h_20],by simp [zaa,h_1,q_8,q_7,h_9,h_20]⟩
    ·try simp at h_20
     cases hp
     try simp [h_1,q_8,q_7,h_9,h_20]
     refine zah ?_
     rw [I_4_]
     exact ⟨by simp [zac,zaa,h_1,q_8,q_7,h_9,h_20],by simp [zaa,h_1,q_8,q_7,h_9,h_20]⟩
   ·try simp at h_9
    cases hp
    try simp [h_1,q_8,q_7,h_9]
    refine zal ?_
    rw [X_5_]
    exact ⟨_,rfl,by simp [zaa,h_1,q_8,q_7,h_9]⟩
  ·intro out hX
   rw [X_5_] at hX
   rcases r_21 with r_21 | r_21
   ·simp only [Sum.elim_inl,Sum.elim_inr] at hX hp
    obtain ⟨σ_23,rfl,q_25,q_24⟩:=hX
    cases hp
    simp [Goal,FnEnd,h_1,q_25,q_24]
   ·simp only [Sum.elim_inl,Sum.elim_inr] at hX hp
    obtain ⟨σ_26,rfl,q_27⟩:=hX
    cases hp
    simp [Goal,FnEnd,h_1,q_27]
theorem pc18:PC Tryz.prog 18 C18:=pc_of (g:=g18) (zaj [] rfl trivial) (ent Tryz.func18) fun x y h=>w18 h

def C17:List AV→Option AV:=specP (X:=THeap × THeap × Unit) fun x=>laws_eqHeap x.1 x.2.1
theorem C17_eq {a_ b_} {y} (h:laws_eqHeap a_ b_=some y):C17 [av .shr a_,av .shr b_]=some (Res.res y):=zai (x:=(a_,b_,())) h
def g17:Cfg:={ P:=Tryz.prog,take:=[],keep:=[],gho:=[],ctx:=[(18,C18)] }
@[simp] theorem g17_s:type_of% (cfg_s (g:=g17) rfl):=cfg_s rfl
theorem w17 {a_ b_} {y} (hp:laws_eqHeap a_ b_=some y):∃ m,callo g17 0 17 [av .shr a_,av .shr b_] mem0=some (Res.res y,m):=by
 refine st0 [.tmp 4] Tryz.func17 ?_
 unfold laws_eqHeap at hp
 obtain ⟨y_1,h_2,hp⟩:=zab hp
 have c_3:=C18_eq h_2
 simp at c_3
 simp [Tryz.f17,c_3]
 rcases zad hp with ⟨h_4,hp⟩|⟨h_4,hp⟩
 ·try simp at h_4
  obtain ⟨y_5,h_6,hp⟩:=zab hp
  have c_7:=C18_eq h_6
  simp at c_7
  try simp [h_4,c_7]
  rcases zad hp with ⟨h_8,hp⟩|⟨h_8,hp⟩
  ·try simp at h_8
   cases hp
   simp [Goal,FnEnd,h_4,h_8]
  ·try simp at h_8
   cases hp
   simp [Goal,FnEnd,h_4,h_8]
 ·try simp at h_4
  cases hp
  simp [Goal,FnEnd,h_4]
theorem pc17:PC Tryz.prog 17 C17:=pc_of (g:=g17) (zaj _ g17_s.2.1 ⟨pc18,trivial⟩) (ent Tryz.func17) fun x y h=>w17 h

def C37:List AV→Option AV:=specP (X:=TFailure × TFailure × Unit) fun x=>laws_eqFailure x.1 x.2.1
theorem C37_eq {a_ b_} {y} (h:laws_eqFailure a_ b_=some y):C37 [av .shr a_,av .shr b_]=some (Res.res y):=zai (x:=(a_,b_,())) h
def g37:Cfg:={ P:=Tryz.prog,take:=[],keep:=[],gho:=[],ctx:=[(17,C17),(18,C18)] }
@[simp] theorem g37_s:type_of% (cfg_s (g:=g37) rfl):=cfg_s rfl
theorem w37 {a_ b_} {y} (hp:laws_eqFailure a_ b_=some y):∃ m,callo g37 0 37 [av .shr a_,av .shr b_] mem0=some (Res.res y,m):=by
 refine st0 [.tmp 4] Tryz.func37 ?_
 unfold laws_eqFailure at hp
 obtain ⟨y_1,h_2,hp⟩:=zab hp
 have c_3:=C17_eq h_2
 simp at c_3
 simp [Tryz.f37,c_3]
 rcases zad hp with ⟨h_4,hp⟩|⟨h_4,hp⟩
 ·try simp at h_4
  obtain ⟨y_5,h_6,hp⟩:=zab hp
  have c_7:=C18_eq h_6
  simp at c_7
  try simp [h_4,c_7]
  rcases zad hp with ⟨h_8,hp⟩|⟨h_8,hp⟩
  ·try simp at h_8
   try simp [h_4,h_8]
   rcases zad hp with ⟨h_9,hp⟩|⟨h_9,hp⟩
   ·try simp at h_9
    cases hp
    simp [Goal,FnEnd,h_4,h_8,h_9]
   ·try simp at h_9
    cases hp
    simp [Goal,FnEnd,h_4,h_8,h_9]
  ·try simp at h_8
   cases hp
   simp [Goal,FnEnd,h_4,h_8]
 ·try simp at h_4
  cases hp
  simp [Goal,FnEnd,h_4]
theorem pc37:PC Tryz.prog 37 C37:=pc_of (g:=g37) (zaj _ g37_s.2.1 ⟨pc17,pc18,trivial⟩) (ent Tryz.func37) fun x y h=>w37 h

def C58:List AV→Option AV:=specP (X:=(List ByteArray) × (List ByteArray) × Unit) fun x=>laws_eqStringS x.1 x.2.1
theorem C58_eq {a_ b_} {y} (h:laws_eqStringS a_ b_=some y):C58 [av .shr a_,av .shr b_]=some (Res.res y):=zai (x:=(a_,b_,())) h
def g58:Cfg:={ P:=Tryz.prog,take:=[],keep:=[((58,4),{ hd:=[0,1,5],bx:=[],ex:=[],rt:=[4] })],gho:=[],ctx:=[] }
@[simp] theorem g58_s:type_of% (cfg_s (g:=g58) rfl):=cfg_s rfl
theorem w58 {a_ b_} {y} (hp:laws_eqStringS a_ b_=some y):∃ m,callo g58 0 58 [av .shr a_,av .shr b_] mem0=some (Res.res y,m):=by
 refine st0 [.tmp 4] Tryz.func58 ?_
 unfold laws_eqStringS at hp
 simp [Tryz.f58]
 rcases zad hp with ⟨h_1,hp⟩|⟨h_1,hp⟩
 ·try simp at h_1
  cases hp
  simp [Goal,FnEnd,h_1]
 ·try simp at h_1
  try simp [h_1]
  obtain ⟨r_21,h_22,hp⟩:=zab hp
  obtain ⟨I_4,I_4_⟩:=exV fun (s_2:Int) (σ:St)=>(σ.env 0=uL .shr a_∧σ.env 1=uL .shr b_∧σ.env 5=uI s_2)∧σ.mem=mem0
  obtain ⟨X_5,X_5_⟩:=exV fun (r_21:(Unit) ⊕ (Unit)) (out:Out)=>Sum.elim (fun r_21=>∃ σ:St,out=.ret σ∧σ.env 4=uB false∧σ.mem=mem0) (fun r_21=>∃ σ:St,out=.exit 0 σ∧σ.mem=mem0) r_21
  refine loopP ({ hd:=[0,1,5],bx:=[],ex:=[],rt:=[4] }) I_4 X_5 h_22 (by exact rfl) ?_ ?_ ?_
  ·rw [I_4_]
   exact ⟨by simp [zac,zaa,h_1],by simp [zaa,h_1]⟩
  ·intro s_2 σ_6 a_3 hI hp
   rw [I_4_] at hI
   obtain ⟨q_8,q_7⟩:=hI
   try simp [h_1,q_8,q_7]
   rcases zad hp with ⟨h_9,hp⟩|⟨h_9,hp⟩
   ·try simp at h_9
    obtain ⟨e_10,h_11,hp⟩:=zab hp
    have b_12:=at_lo h_11
    have b_13:=at_hi h_11
    try simp at b_12 b_13
    have c_14:=seg_at' h_11 0 1 (by decide) (ds:=[.sc (.string e_10)]) rfl
    try simp at c_14
    obtain ⟨e_15,h_16,hp⟩:=zab hp
    have b_17:=at_lo h_16
    have b_18:=at_hi h_16
    try simp at b_17 b_18
    have c_19:=seg_at' h_16 0 1 (by decide) (ds:=[.sc (.string e_15)]) rfl
    try simp at c_19
    try simp [h_1,q_8,q_7,h_9,b_12,b_13,c_14,b_17,b_18,c_19]
    rcases zad hp with ⟨h_20,hp⟩|⟨h_20,hp⟩
    ·try simp at h_20
     cases hp
     try simp [h_1,q_8,q_7,h_9,h_20]
     refine zao ?_
     rw [X_5_]
     exact ⟨_,rfl,by simp [zac,zaa,h_1,q_8,q_7,h_9,h_20],by simp [zaa,h_1,q_8,q_7,h_9,h_20]⟩
    ·try simp at h_20
     cases hp
     try simp [h_1,q_8,q_7,h_9,h_20]
     refine zah ?_
     rw [I_4_]
     exact ⟨by simp [zac,zaa,h_1,q_8,q_7,h_9,h_20],by simp [zaa,h_1,q_8,q_7,h_9,h_20]⟩
   ·try simp at h_9
    cases hp
    try simp [h_1,q_8,q_7,h_9]
    refine zal ?_
    rw [X_5_]
    exact ⟨_,rfl,by simp [zaa,h_1,q_8,q_7,h_9]⟩
  ·intro out hX
   rw [X_5_] at hX
   rcases r_21 with r_21 | r_21
   ·simp only [Sum.elim_inl,Sum.elim_inr] at hX hp
    obtain ⟨σ_23,rfl,q_25,q_24⟩:=hX
    cases hp
    simp [Goal,FnEnd,h_1,q_25,q_24]
   ·simp only [Sum.elim_inl,Sum.elim_inr] at hX hp
    obtain ⟨σ_26,rfl,q_27⟩:=hX
    cases hp
    simp [Goal,FnEnd,h_1,q_27]
theorem pc58:PC Tryz.prog 58 C58:=pc_of (g:=g58) (zaj [] rfl trivial) (ent Tryz.func58) fun x y h=>w58 h

def C145:List AV→Option AV:=specP (X:=TStmt × TStmt × Unit) fun x=>laws_eqStmt x.1 x.2.1
theorem C145_eq {a_ b_} {y} (h:laws_eqStmt a_ b_=some y):C145 [av .shr a_,av .shr b_]=some (Res.res y):=zai (x:=(a_,b_,())) h
def g145:Cfg:={ P:=Tryz.prog,take:=[],keep:=[],gho:=[],ctx:=[] }
@[simp] theorem g145_s:type_of% (cfg_s (g:=g145) rfl):=cfg_s rfl
theorem w145 {a_ b_} {y} (hp:laws_eqStmt a_ b_=some y):∃ m,callo g145 0 145 [av .shr a_,av .shr b_] mem0=some (Res.res y,m):=by
 refine st0 [.tmp 4] Tryz.func145 ?_
 unfold laws_eqStmt at hp
 simp [Tryz.f145]
 rcases zad hp with ⟨h_1,hp⟩|⟨h_1,hp⟩
 ·try simp at h_1
  cases hp
  simp [Goal,FnEnd,h_1]
 ·try simp at h_1
  try simp [h_1]
  rcases zad hp with ⟨h_2,hp⟩|⟨h_2,hp⟩
  ·try simp at h_2
   cases hp
   simp [Goal,FnEnd,h_1,h_2]
  ·try simp at h_2
   try simp [h_1,h_2]
   rcases zad hp with ⟨h_3,hp⟩|⟨h_3,hp⟩
   ·try simp at h_3
    cases hp
    simp [Goal,FnEnd,h_1,h_2,h_3]
   ·try simp at h_3
    cases hp
    simp [Goal,FnEnd,h_1,h_2,h_3]
theorem pc145:PC Tryz.prog 145 C145:=pc_of (g:=g145) (zaj [] rfl trivial) (ent Tryz.func145) fun x y h=>w145 h

def C109:List AV→Option AV:=specP (X:=TEdge × TEdge × Unit) fun x=>laws_eqEdge x.1 x.2.1
theorem C109_eq {a_ b_} {y} (h:laws_eqEdge a_ b_=some y):C109 [av .shr a_,av .shr b_]=some (Res.res y):=zai (x:=(a_,b_,())) h
def g109:Cfg:={ P:=Tryz.prog,take:=[],keep:=[],gho:=[],ctx:=[(145,C145)] }
@[simp] theorem g109_s:type_of% (cfg_s (g:=g109) rfl):=cfg_s rfl
theorem w109 {a_ b_} {y} (hp:laws_eqEdge a_ b_=some y):∃ m,callo g109 0 109 [av .shr a_,av .shr b_] mem0=some (Res.res y,m):=by
 refine st0 [.tmp 4] Tryz.func109 ?_
 unfold laws_eqEdge at hp
 simp [Tryz.f109]
 rcases zad hp with ⟨h_1,hp⟩|⟨h_1,hp⟩
 ·try simp at h_1
  cases hp
  simp [Goal,FnEnd,h_1]
 ·try simp at h_1
  try simp [h_1]
  rcases zad hp with ⟨h_2,hp⟩|⟨h_2,hp⟩
  ·try simp at h_2
   cases hp
   simp [Goal,FnEnd,h_1,h_2]
  ·try simp at h_2
   obtain ⟨y_3,h_4,hp⟩:=zab hp
   have c_5:=C145_eq h_4
   simp at c_5
   try simp [h_1,h_2,c_5]
   rcases zad hp with ⟨h_6,hp⟩|⟨h_6,hp⟩
   ·try simp at h_6
    cases hp
    simp [Goal,FnEnd,h_1,h_2,h_6]
   ·try simp at h_6
    cases hp
    simp [Goal,FnEnd,h_1,h_2,h_6]
theorem pc109:PC Tryz.prog 109 C109:=pc_of (g:=g109) (zaj _ g109_s.2.1 ⟨pc145,trivial⟩) (ent Tryz.func109) fun x y h=>w109 h

def C59:List AV→Option AV:=specP (X:=(List TEdge) × (List TEdge) × Unit) fun x=>laws_eqEdgeS x.1 x.2.1
theorem C59_eq {a_ b_} {y} (h:laws_eqEdgeS a_ b_=some y):C59 [av .shr a_,av .shr b_]=some (Res.res y):=zai (x:=(a_,b_,())) h
def g59:Cfg:={ P:=Tryz.prog,take:=[],keep:=[((59,4),{ hd:=[0,1,5],bx:=[],ex:=[],rt:=[4] })],gho:=[],ctx:=[(109,C109)] }
@[simp] theorem g59_s:type_of% (cfg_s (g:=g59) rfl):=cfg_s rfl
theorem w59 {a_ b_} {y} (hp:laws_eqEdgeS a_ b_=some y):∃ m,callo g59 0 59 [av .shr a_,av .shr b_] mem0=some (Res.res y,m):=by
 refine st0 [.tmp 4] Tryz.func59 ?_
 unfold laws_eqEdgeS at hp
 simp [Tryz.f59]
 rcases zad hp with ⟨h_1,hp⟩|⟨h_1,hp⟩
 ·try simp at h_1
  cases hp
  simp [Goal,FnEnd,h_1]
 ·try simp at h_1
  try simp [h_1]
  obtain ⟨r_24,h_25,hp⟩:=zab hp
  obtain ⟨I_4,I_4_⟩:=exV fun (s_2:Int) (σ:St)=>(σ.env 0=uL .shr a_∧σ.env 1=uL .shr b_∧σ.env 5=uI s_2)∧σ.mem=mem0
  obtain ⟨X_5,X_5_⟩:=exV fun (r_24:(Unit) ⊕ (Unit)) (out:Out)=>Sum.elim (fun r_24=>∃ σ:St,out=.ret σ∧σ.env 4=uB false∧σ.mem=mem0) (fun r_24=>∃ σ:St,out=.exit 0 σ∧σ.mem=mem0) r_24
  refine loopP ({ hd:=[0,1,5],bx:=[],ex:=[],rt:=[4] }) I_4 X_5 h_25 (by exact rfl) ?_ ?_ ?_
  ·rw [I_4_]
   exact ⟨by simp [zac,zaa,h_1],by simp [zaa,h_1]⟩
  ·intro s_2 σ_6 a_3 hI hp
   rw [I_4_] at hI
   obtain ⟨q_8,q_7⟩:=hI
   try simp [h_1,q_8,q_7]
   rcases zad hp with ⟨h_9,hp⟩|⟨h_9,hp⟩
   ·try simp at h_9
    obtain ⟨e_10,h_11,hp⟩:=zab hp
    have b_12:=at_lo h_11
    have b_13:=at_hi h_11
    try simp at b_12 b_13
    have c_14:=seg_at' h_11 0 5 (by decide) (ds:=[.sc (.int .i64 e_10.from_),.sc (.int .i64 e_10.to_),.sc (.int .i64 e_10.stmt.kind),.sc (.string e_10.stmt.a),.sc (.string e_10.stmt.b)]) rfl
    try simp at c_14
    obtain ⟨e_15,h_16,hp⟩:=zab hp
    have b_17:=at_lo h_16
    have b_18:=at_hi h_16
    try simp at b_17 b_18
    have c_19:=seg_at' h_16 0 5 (by decide) (ds:=[.sc (.int .i64 e_15.from_),.sc (.int .i64 e_15.to_),.sc (.int .i64 e_15.stmt.kind),.sc (.string e_15.stmt.a),.sc (.string e_15.stmt.b)]) rfl
    try simp at c_19
    obtain ⟨y_20,h_21,hp⟩:=zab hp
    have c_22:=C109_eq h_21
    simp at c_22
    try simp [h_1,q_8,q_7,h_9,b_12,b_13,c_14,b_17,b_18,c_19,c_22]
    rcases zad hp with ⟨h_23,hp⟩|⟨h_23,hp⟩
    ·try simp at h_23
     cases hp
     try simp [h_1,q_8,q_7,h_9,h_23]
     refine zah ?_
     rw [I_4_]
     exact ⟨by simp [zac,zaa,h_1,q_8,q_7,h_9,h_23],by simp [zaa,h_1,q_8,q_7,h_9,h_23]⟩
    ·try simp at h_23
     cases hp
     try simp [h_1,q_8,q_7,h_9,h_23]
     refine zao ?_
     rw [X_5_]
     exact ⟨_,rfl,by simp [zac,zaa,h_1,q_8,q_7,h_9,h_23],by simp [zaa,h_1,q_8,q_7,h_9,h_23]⟩
   ·try simp at h_9
    cases hp
    try simp [h_1,q_8,q_7,h_9]
    refine zal ?_
    rw [X_5_]
    exact ⟨_,rfl,by simp [zaa,h_1,q_8,q_7,h_9]⟩
  ·intro out hX
   rw [X_5_] at hX
   rcases r_24 with r_24 | r_24
   ·simp only [Sum.elim_inl,Sum.elim_inr] at hX hp
    obtain ⟨σ_26,rfl,q_28,q_27⟩:=hX
    cases hp
    simp [Goal,FnEnd,h_1,q_28,q_27]
   ·simp only [Sum.elim_inl,Sum.elim_inr] at hX hp
    obtain ⟨σ_29,rfl,q_30⟩:=hX
    cases hp
    simp [Goal,FnEnd,h_1,q_30]
theorem pc59:PC Tryz.prog 59 C59:=pc_of (g:=g59) (zaj _ g59_s.2.1 ⟨pc109,trivial⟩) (ent Tryz.func59) fun x y h=>w59 h

def C16:List AV→Option AV:=specP (X:=TProgram × TProgram × Unit) fun x=>laws_eqProgram x.1 x.2.1
theorem C16_eq {a_ b_} {y} (h:laws_eqProgram a_ b_=some y):C16 [av .shr a_,av .shr b_]=some (Res.res y):=zai (x:=(a_,b_,())) h
def g16:Cfg:={ P:=Tryz.prog,take:=[],keep:=[],gho:=[],ctx:=[(58,C58),(59,C59)] }
@[simp] theorem g16_s:type_of% (cfg_s (g:=g16) rfl):=cfg_s rfl
theorem w16 {a_ b_} {y} (hp:laws_eqProgram a_ b_=some y):∃ m,callo g16 0 16 [av .shr a_,av .shr b_] mem0=some (Res.res y,m):=by
 refine st0 [.tmp 4] Tryz.func16 ?_
 unfold laws_eqProgram at hp
 obtain ⟨y_1,h_2,hp⟩:=zab hp
 have c_3:=C58_eq h_2
 simp at c_3
 simp [Tryz.f16,c_3]
 rcases zad hp with ⟨h_4,hp⟩|⟨h_4,hp⟩
 ·try simp at h_4
  try simp [h_4]
  rcases zad hp with ⟨h_5,hp⟩|⟨h_5,hp⟩
  ·try simp at h_5
   cases hp
   simp [Goal,FnEnd,h_4,h_5]
  ·try simp at h_5
   obtain ⟨y_6,h_7,hp⟩:=zab hp
   have c_8:=C59_eq h_7
   simp at c_8
   try simp [h_4,h_5,c_8]
   rcases zad hp with ⟨h_9,hp⟩|⟨h_9,hp⟩
   ·try simp at h_9
    cases hp
    simp [Goal,FnEnd,h_4,h_5,h_9]
   ·try simp at h_9
    cases hp
    simp [Goal,FnEnd,h_4,h_5,h_9]
 ·try simp at h_4
  cases hp
  simp [Goal,FnEnd,h_4]
theorem pc16:PC Tryz.prog 16 C16:=pc_of (g:=g16) (zaj _ g16_s.2.1 ⟨pc58,pc59,trivial⟩) (ent Tryz.func16) fun x y h=>w16 h

def C28:List AV→Option AV:=specP (X:=(List THeap) × (List THeap) × Unit) fun x=>laws_eqHeapS x.1 x.2.1
theorem C28_eq {a_ b_} {y} (h:laws_eqHeapS a_ b_=some y):C28 [av .shr a_,av .shr b_]=some (Res.res y):=zai (x:=(a_,b_,())) h
def g28:Cfg:={ P:=Tryz.prog,take:=[],keep:=[((28,4),{ hd:=[0,1,5],bx:=[],ex:=[],rt:=[4] })],gho:=[],ctx:=[(17,C17)] }
@[simp] theorem g28_s:type_of% (cfg_s (g:=g28) rfl):=cfg_s rfl
theorem w28 {a_ b_} {y} (hp:laws_eqHeapS a_ b_=some y):∃ m,callo g28 0 28 [av .shr a_,av .shr b_] mem0=some (Res.res y,m):=by
 refine st0 [.tmp 4] Tryz.func28 ?_
 unfold laws_eqHeapS at hp
 simp [Tryz.f28]
 rcases zad hp with ⟨h_1,hp⟩|⟨h_1,hp⟩
 ·try simp at h_1
  cases hp
  simp [Goal,FnEnd,h_1]
 ·try simp at h_1
  try simp [h_1]
  obtain ⟨r_24,h_25,hp⟩:=zab hp
  obtain ⟨I_4,I_4_⟩:=exV fun (s_2:Int) (σ:St)=>(σ.env 0=uL .shr a_∧σ.env 1=uL .shr b_∧σ.env 5=uI s_2)∧σ.mem=mem0
  obtain ⟨X_5,X_5_⟩:=exV fun (r_24:(Unit) ⊕ (Unit)) (out:Out)=>Sum.elim (fun r_24=>∃ σ:St,out=.ret σ∧σ.env 4=uB false∧σ.mem=mem0) (fun r_24=>∃ σ:St,out=.exit 0 σ∧σ.mem=mem0) r_24
  refine loopP ({ hd:=[0,1,5],bx:=[],ex:=[],rt:=[4] }) I_4 X_5 h_25 (by exact rfl) ?_ ?_ ?_
  ·rw [I_4_]
   exact ⟨by simp [zac,zaa,h_1],by simp [zaa,h_1]⟩
  ·intro s_2 σ_6 a_3 hI hp
   rw [I_4_] at hI
   obtain ⟨q_8,q_7⟩:=hI
   try simp [h_1,q_8,q_7]
   rcases zad hp with ⟨h_9,hp⟩|⟨h_9,hp⟩
   ·try simp at h_9
    obtain ⟨e_10,h_11,hp⟩:=zab hp
    have b_12:=at_lo h_11
    have b_13:=at_hi h_11
    try simp at b_12 b_13
    have c_14:=seg_at' h_11 0 2 (by decide) (ds:=[.sl e_10.vars.length (encL e_10.vars),.sl e_10.next.length (encL e_10.next)]) rfl
    try simp at c_14
    obtain ⟨e_15,h_16,hp⟩:=zab hp
    have b_17:=at_lo h_16
    have b_18:=at_hi h_16
    try simp at b_17 b_18
    have c_19:=seg_at' h_16 0 2 (by decide) (ds:=[.sl e_15.vars.length (encL e_15.vars),.sl e_15.next.length (encL e_15.next)]) rfl
    try simp at c_19
    obtain ⟨y_20,h_21,hp⟩:=zab hp
    have c_22:=C17_eq h_21
    simp at c_22
    try simp [h_1,q_8,q_7,h_9,b_12,b_13,c_14,b_17,b_18,c_19,c_22]
    rcases zad hp with ⟨h_23,hp⟩|⟨h_23,hp⟩
    ·try simp at h_23
     cases hp
     try simp [h_1,q_8,q_7,h_9,h_23]
     refine zah ?_
     rw [I_4_]
     exact ⟨by simp [zac,zaa,h_1,q_8,q_7,h_9,h_23],by simp [zaa,h_1,q_8,q_7,h_9,h_23]⟩
    ·try simp at h_23
     cases hp
     try simp [h_1,q_8,q_7,h_9,h_23]
     refine zao ?_
     rw [X_5_]
     exact ⟨_,rfl,by simp [zac,zaa,h_1,q_8,q_7,h_9,h_23],by simp [zaa,h_1,q_8,q_7,h_9,h_23]⟩
   ·try simp at h_9
    cases hp
    try simp [h_1,q_8,q_7,h_9]
    refine zal ?_
    rw [X_5_]
    exact ⟨_,rfl,by simp [zaa,h_1,q_8,q_7,h_9]⟩
  ·intro out hX
   rw [X_5_] at hX
   rcases r_24 with r_24 | r_24
   ·simp only [Sum.elim_inl,Sum.elim_inr] at hX hp
    obtain ⟨σ_26,rfl,q_28,q_27⟩:=hX
    cases hp
    simp [Goal,FnEnd,h_1,q_28,q_27]
   ·simp only [Sum.elim_inl,Sum.elim_inr] at hX hp
    obtain ⟨σ_29,rfl,q_30⟩:=hX
    cases hp
    simp [Goal,FnEnd,h_1,q_30]
theorem pc28:PC Tryz.prog 28 C28:=pc_of (g:=g28) (zaj _ g28_s.2.1 ⟨pc17,trivial⟩) (ent Tryz.func28) fun x y h=>w28 h

def C70:List AV→Option AV:=specP (X:=(List Int) × Int × Unit) fun x=>laws_heldIntS x.1 x.2.1
theorem C70_eq {a_ k_} {y} (h:laws_heldIntS a_ k_=some y):C70 [av .shr a_,av .shr k_]=some (Res.res y):=zai (x:=(a_,k_,())) h
def g70:Cfg:={ P:=Tryz.prog,take:=[],keep:=[((70,2),{ hd:=[0,1,5],bx:=[],ex:=[1],rt:=[4] })],gho:=[],ctx:=[] }
@[simp] theorem g70_s:type_of% (cfg_s (g:=g70) rfl):=cfg_s rfl
theorem w70 {a_ k_} {y} (hp:laws_heldIntS a_ k_=some y):∃ m,callo g70 0 70 [av .shr a_,av .shr k_] mem0=some (Res.res y,m):=by
 refine st0 [.tmp 4] Tryz.func70 ?_
 unfold laws_heldIntS at hp
 simp [Tryz.f70]
 obtain ⟨r_15,h_16,hp⟩:=zab hp
 obtain ⟨I_3,I_3_⟩:=exV fun (s_1:Int × Int) (σ:St)=>(σ.env 0=uL .shr a_∧σ.env 1=uI s_1.1∧σ.env 5=uI s_1.2)∧σ.mem=mem0
 obtain ⟨X_4,X_4_⟩:=exV fun (r_15:(Int) ⊕ (Int)) (out:Out)=>Sum.elim (fun r_15=>∃ σ:St,out=.ret σ∧σ.env 4=uI r_15∧σ.mem=mem0) (fun r_15=>∃ σ:St,out=.exit 0 σ∧σ.env 1=uI r_15∧σ.mem=mem0) r_15
 refine loopP ({ hd:=[0,1,5],bx:=[],ex:=[1],rt:=[4] }) I_3 X_4 h_16 (by exact rfl) ?_ ?_ ?_
 ·rw [I_3_]
  exact ⟨by simp [zac,zaa],by simp [zaa]⟩
 ·intro s_1 σ_5 a_2 hI hp
  rw [I_3_] at hI
  obtain ⟨q_7,q_6⟩:=hI
  try simp [q_7,q_6]
  rcases zad hp with ⟨h_8,hp⟩|⟨h_8,hp⟩
  ·try simp at h_8
   obtain ⟨e_9,h_10,hp⟩:=zab hp
   have b_11:=at_lo h_10
   have b_12:=at_hi h_10
   try simp at b_11 b_12
   have c_13:=seg_at' h_10 0 1 (by decide) (ds:=[.sc (.int .i64 e_9)]) rfl
   try simp at c_13
   try simp [q_7,q_6,h_8,b_11,b_12,c_13]
   rcases zad hp with ⟨h_14,hp⟩|⟨h_14,hp⟩
   ·try simp at h_14
    cases hp
    try simp [q_7,q_6,h_8,h_14]
    refine zao ?_
    rw [X_4_]
    exact ⟨_,rfl,by simp [zac,zaa,q_7,q_6,h_8,h_14],by simp [zaa,q_7,q_6,h_8,h_14]⟩
   ·try simp at h_14
    cases hp
    try simp [q_7,q_6,h_8,h_14]
    refine zah ?_
    rw [I_3_]
    exact ⟨by simp [zac,zaa,q_7,q_6,h_8,h_14],by simp [zaa,q_7,q_6,h_8,h_14]⟩
  ·try simp at h_8
   cases hp
   try simp [q_7,q_6,h_8]
   refine zal ?_
   rw [X_4_]
   exact ⟨_,rfl,by simp [zac,zaa,q_7,q_6,h_8],by simp [zaa,q_7,q_6,h_8]⟩
 ·intro out hX
  rw [X_4_] at hX
  rcases r_15 with r_15 | r_15
  ·simp only [Sum.elim_inl,Sum.elim_inr] at hX hp
   obtain ⟨σ_17,rfl,q_19,q_18⟩:=hX
   cases hp
   simp [Goal,FnEnd,q_19,q_18]
  ·simp only [Sum.elim_inl,Sum.elim_inr] at hX hp
   obtain ⟨σ_20,rfl,q_22,q_21⟩:=hX
   cases hp
   simp [Goal,FnEnd,q_22,q_21]
theorem pc70:PC Tryz.prog 70 C70:=pc_of (g:=g70) (zaj [] rfl trivial) (ent Tryz.func70) fun x y h=>w70 h

def C62:List AV→Option AV:=specP (X:=THeap × Int × Unit) fun x=>laws_heldHeap x.1 x.2.1
theorem C62_eq {a_ k_} {y} (h:laws_heldHeap a_ k_=some y):C62 [av .shr a_,av .shr k_]=some (Res.res y):=zai (x:=(a_,k_,())) h
def g62:Cfg:={ P:=Tryz.prog,take:=[],keep:=[],gho:=[],ctx:=[(70,C70)] }
@[simp] theorem g62_s:type_of% (cfg_s (g:=g62) rfl):=cfg_s rfl
theorem w62 {a_ k_} {y} (hp:laws_heldHeap a_ k_=some y):∃ m,callo g62 0 62 [av .shr a_,av .shr k_] mem0=some (Res.res y,m):=by
 refine st0 [.tmp 4] Tryz.func62 ?_
 unfold laws_heldHeap at hp
 obtain ⟨y_1,h_2,hp⟩:=zab hp
 have c_3:=C70_eq h_2
 simp at c_3
 simp [Tryz.f62,c_3]
 rcases zad hp with ⟨h_4,hp⟩|⟨h_4,hp⟩
 ·try simp at h_4
  cases hp
  simp [Goal,FnEnd,h_4]
 ·try simp at h_4
  obtain ⟨y_5,h_6,hp⟩:=zab hp
  have c_7:=C70_eq h_6
  simp at c_7
  try simp [h_4,c_7]
  rcases zad hp with ⟨h_8,hp⟩|⟨h_8,hp⟩
  ·try simp at h_8
   cases hp
   simp [Goal,FnEnd,h_4,h_8]
  ·try simp at h_8
   cases hp
   simp [Goal,FnEnd,h_4,h_8]
theorem pc62:PC Tryz.prog 62 C62:=pc_of (g:=g62) (zaj _ g62_s.2.1 ⟨pc70,trivial⟩) (ent Tryz.func62) fun x y h=>w62 h

def C39:List AV→Option AV:=specP (X:=TFailure × Int × Unit) fun x=>laws_heldFailure x.1 x.2.1
theorem C39_eq {a_ k_} {y} (h:laws_heldFailure a_ k_=some y):C39 [av .shr a_,av .shr k_]=some (Res.res y):=zai (x:=(a_,k_,())) h
def g39:Cfg:={ P:=Tryz.prog,take:=[],keep:=[],gho:=[],ctx:=[(62,C62),(70,C70)] }
@[simp] theorem g39_s:type_of% (cfg_s (g:=g39) rfl):=cfg_s rfl
theorem w39 {a_ k_} {y} (hp:laws_heldFailure a_ k_=some y):∃ m,callo g39 0 39 [av .shr a_,av .shr k_] mem0=some (Res.res y,m):=by
 refine st0 [.tmp 4] Tryz.func39 ?_
 unfold laws_heldFailure at hp
 obtain ⟨y_1,h_2,hp⟩:=zab hp
 have c_3:=C62_eq h_2
 simp at c_3
 simp [Tryz.f39,c_3]
 rcases zad hp with ⟨h_4,hp⟩|⟨h_4,hp⟩
 ·try simp at h_4
  cases hp
  simp [Goal,FnEnd,h_4]
 ·try simp at h_4
  obtain ⟨y_5,h_6,hp⟩:=zab hp
  have c_7:=C70_eq h_6
  simp at c_7
  try simp [h_4,c_7]
  rcases zad hp with ⟨h_8,hp⟩|⟨h_8,hp⟩
  ·try simp at h_8
   cases hp
   simp [Goal,FnEnd,h_4,h_8]
  ·try simp at h_8
   cases hp
   simp [Goal,FnEnd,h_4,h_8]
theorem pc39:PC Tryz.prog 39 C39:=pc_of (g:=g39) (zaj _ g39_s.2.1 ⟨pc62,pc70,trivial⟩) (ent Tryz.func39) fun x y h=>w39 h

def C6:List AV→Option AV:=specP (X:=TProgram × (List THeap) × Unit) fun x=>laws_FnExactFindFailure x.1 x.2.1
theorem C6_eq {aP aStart} {y} (h:laws_FnExactFindFailure aP aStart=some y):C6 [av .shr aP,av .shr aStart]=some (Res.res y):=zai (x:=(aP,aStart,())) h
def g6:Cfg:={ P:=Tryz.prog,take:=[(6,27),(6,39),(6,94)],keep:=[((60,2),rowKp),((61,2),rowKp),((32,2),rowKp),((21,2),rowKp)],gho:=[((6,19),[.many (thawBox 1 8)]),((6,2000019),[.many (frzBox 1 8)]),((6,20),[.many (thawSlot 1 9)]),((6,2000020),[.many (frzSlot 1 9)]),((6,24),[.many (thawBox 1 10)]),((6,2000024),[.many (frzBox 1 10)])],ctx:=[(8,C8),(11,C11),(16,C16),(24,C24),(26,C26),(28,C28),(35,C35),(36,C36),(37,C37),(39,C39),(110,C110)] }
@[simp] theorem g6_s:type_of% (cfg_s (g:=g6) rfl):=cfg_s rfl
theorem w6 {aP aStart} {y} (hp:laws_FnExactFindFailure aP aStart=some y):∃ m,callo g6 0 6 [av .shr aP,av .shr aStart] mem0=some (Res.res y,m):=by
 have G_19:G19 g6:=⟨rfl,by kernel_rfl,rfl,fun t=>by simp,noAway (fun t=>by simp) (by simp) (fun t=>by simp),by simp [lookN],fun i=>by simp [lookK],by simp [g6,lookK],by simp⟩
 have G_60:G60 g6:=⟨rfl,by kernel_rfl,rfl,fun t=>by simp,noAway (fun t=>by simp) (by simp) (fun t=>by simp),by simp [lookN],fun i=>by simp [lookK],by simp [g6,lookK],by simp⟩
 have G_61:G61 g6:=⟨rfl,by kernel_rfl,rfl,fun t=>by simp,noAway (fun t=>by simp) (by simp) (fun t=>by simp),by simp [lookN],fun i=>by simp [lookK],by simp [g6,lookK],by simp⟩
 have G_32:G32 g6:=⟨rfl,by kernel_rfl,rfl,fun t=>by simp,noAway (fun t=>by simp) (by simp) (fun t=>by simp),by simp [lookN],fun i=>by simp [lookK],by simp [g6,lookK],by simp⟩
 have G_21:G21 g6:=⟨rfl,by kernel_rfl,rfl,fun t=>by simp,noAway (fun t=>by simp) (by simp) (fun t=>by simp),by simp [lookN],fun i=>by simp [lookK],by simp [g6,lookK],by simp⟩
 have G_38:G38 g6:=⟨rfl,by kernel_rfl,rfl,fun t=>by simp,noAway (fun t=>by simp) (by simp) (fun t=>by simp),by simp [lookN],fun i=>by simp [lookK],by simp [g6,lookK],by simp⟩
 have G_20:G20 g6:=⟨rfl,by kernel_rfl,rfl,fun t=>by simp,noAway (fun t=>by simp) (by simp) (fun t=>by simp),by simp [lookN],fun i=>by simp [lookK],by simp [g6,lookK],by simp⟩
 refine st0 [.tmp 4] Tryz.func6 ?_
 unfold laws_FnExactFindFailure at hp
 obtain ⟨y_1,h_2,hp⟩:=zab hp
 have c_3:=C8_eq h_2
 simp at c_3
 simp [Tryz.f6,c_3]
 rcases zad hp with ⟨h_4,hp⟩|⟨h_4,hp⟩
 ·try simp at h_4
  cases hp
  simp [Goal,FnEnd,h_4]
 ·try simp at h_4
  obtain ⟨y_5,h_6,hp⟩:=zab hp
  have c_7:=C24_eq h_6
  simp at c_7
  try simp [h_4,c_7]
  rcases zad hp with ⟨h_8,hp⟩|⟨h_8,hp⟩
  ·try simp at h_8
   cases hp
   simp [Goal,FnEnd,h_4,h_8]
  ·try simp at h_8
   obtain ⟨y_9,h_10,hp⟩:=zab hp
   have c_11:=C11_eq h_10
   simp at c_11
   obtain ⟨y_12,h_13,hp⟩:=zab hp
   have c_14:=C26_eq h_13
   simp at c_14
   obtain ⟨y_15,h_16,hp⟩:=zab hp
   have c_17:=C35_eq h_16
   simp at c_17
   obtain ⟨y_18,h_19,hp⟩:=zab hp
   cases Option.some.inj (h_10.symm.trans h_19)
   obtain ⟨y_20,h_21,hp⟩:=zab hp
   cases Option.some.inj (h_13.symm.trans h_21)
   obtain ⟨y_22,h_23,hp⟩:=zab hp
   have c_24:=C36_eq h_23
   simp at c_24
   obtain ⟨y_25,h_26,hp⟩:=zab hp
   have c_27:=C37_eq h_26
   simp at c_27
   try simp [h_4,h_8,c_11,c_14,c_17,c_11,c_14,c_24,c_27]
   rcases zad hp with ⟨h_28,hp⟩|⟨h_28,hp⟩
   ·try simp at h_28
    try simp [h_4,h_8,h_28]
    rcases zad hp with ⟨h_29,hp⟩|⟨h_29,hp⟩
    ·try simp at h_29
     cases hp
     simp [Goal,FnEnd,h_4,h_8,h_28,h_29]
    ·try simp at h_29
     obtain ⟨y_30,h_31,hp⟩:=zab hp
     cases Option.some.inj (h_10.symm.trans h_31)
     obtain ⟨y_32,h_33,hp⟩:=zab hp
     have c_34:=C16_eq h_33
     simp at c_34
     try simp [h_4,h_8,h_28,h_29,c_11,c_34]
     rcases zad hp with ⟨h_35,hp⟩|⟨h_35,hp⟩
     ·try simp at h_35
      obtain ⟨y_36,h_37,hp⟩:=zab hp
      cases Option.some.inj (h_13.symm.trans h_37)
      obtain ⟨y_38,h_39,hp⟩:=zab hp
      have c_40:=C28_eq h_39
      simp at c_40
      try simp [h_4,h_8,h_28,h_29,h_35,c_14,c_40]
      rcases zad hp with ⟨h_41,hp⟩|⟨h_41,hp⟩
      ·try simp at h_41
       obtain ⟨r_42,h_43,hp⟩:=zab hp
       obtain ⟨lg_44,e_45⟩:=markO_eq h_43
       have mk_46:=mk19 G_19 G_60 G_61 y_9 1 lg_44
       rw [e_45] at mk_46
       try simp [h_4,h_8,h_28,h_29,h_35,h_41]
       refine goal_markB 8 8 12 64 65 66 19 mk_46 (show ti g6.P 38=some _ from ti_38) rfl rfl (by decide) (by simp [h_4,h_8,h_28,h_29,h_35,h_41]) (by simp [h_4,h_8,h_28,h_29,h_35,h_41]) (by simp [h_4,h_8,h_28,h_29,h_35,h_41]) (WfE.wfE _) (WfE.wfE _) (fun key hkey=>by simp [mem0,key_low hkey 1 2 (by decide),key_low hkey 1 6 (by decide),key_low hkey 1 8 (by decide),key_low hkey 1 10 (by decide),h_4,h_8,h_28,h_29,h_35,h_41]) (by simp) (by simp) (by simp) rfl (by decide) fun σ_47 qq_48 hq_49 hx_50 hk_51 he_52 hd_53 hm_54=>?_
       obtain ⟨q_55,q_56,q_57,q_58,q_59,q_60,q_61,q_62,q_63,q_64,q_65,q_66⟩:σ_47.env 1=uL .shr aStart∧σ_47.env 2=uP (1,2)∧σ_47.env 6=uP (1,6)∧σ_47.env 7=uB y_15.2∧σ_47.env 9=uL .own y_12∧σ_47.env 10=uP (1,10)∧σ_47.env 11=uB y_22.2∧σ_47.env 12=uI r_42.2∧σ_47.mem (1,2)=some [cL .shr aP.vars,cI aP.points,cL .shr aP.edges]∧σ_47.mem (1,6)=some [cL .own y_15.1.heap.vars,cL .own y_15.1.heap.next,cL .own y_15.1.edges,cI y_15.1.code]∧σ_47.mem (1,8)=some [cL .own r_42.1.vars,cI r_42.1.points,cL .own r_42.1.edges]∧σ_47.mem (1,10)=some [cL .own y_22.1.heap.vars,cL .own y_22.1.heap.next,cL .own y_22.1.edges,cI y_22.1.code]:=by refine ⟨(he_52 1 (by decide) (by decide) (by decide) (by decide)).trans ?_,(he_52 2 (by decide) (by decide) (by decide) (by decide)).trans ?_,(he_52 6 (by decide) (by decide) (by decide) (by decide)).trans ?_,(he_52 7 (by decide) (by decide) (by decide) (by decide)).trans ?_,(he_52 9 (by decide) (by decide) (by decide) (by decide)).trans ?_,(he_52 10 (by decide) (by decide) (by decide) (by decide)).trans ?_,(he_52 11 (by decide) (by decide) (by decide) (by decide)).trans ?_,hk_51,(hm_54 (1,2) (by decide) (by decide) (by decide)).trans ?_,(hm_54 (1,6) (by decide) (by decide) (by decide)).trans ?_,hx_50.trans (by simp),(hm_54 (1,10) (by decide) (by decide) (by decide)).trans ?_⟩ <;> simp [h_4,h_8,h_28,h_29,h_35,h_41,hq_49 (1,2) (by decide) (by decide),hq_49 (1,6) (by decide) (by decide),hq_49 (1,8) (by decide) (by decide),hq_49 (1,10) (by decide) (by decide)]
       have hn_67:NoBox [(1,2),(1,6),(1,8),(1,10)] σ_47.mem:=by
        intro key hk
        by_cases hl:1 < key.1∨bigK≤key.2
        ·exact hd_53 key hl
        ·rw [hm_54 key (by rintro rfl;simp at hk) (by omega) (by omega)]
         simp at hk
         simp [mem0,hk,h_4,h_8,h_28,h_29,h_35,h_41]
       obtain ⟨r_68,h_69,hp⟩:=zab hp
       obtain ⟨lg_70,e_71⟩:=markO_eq h_69
       have mk_72:=mk32 G_32 G_21 y_12 r_42.2 lg_70
       rw [e_71] at mk_72
       try simp [h_4,h_8,h_28,h_29,h_35,h_41,q_55,q_56,q_57,q_58,q_59,q_60,q_61,q_62,q_63,q_64,q_65,q_66]
       refine goal_mark 9 12 67 68 69 32 mk_72 (by simp [h_4,h_8,h_28,h_29,h_35,h_41,q_55,q_56,q_57,q_58,q_59,q_60,q_61,q_62,q_63,q_64,q_65,q_66]) (fun _=>rfl) (by simp [h_4,h_8,h_28,h_29,h_35,h_41,q_55,q_56,q_57,q_58,q_59,q_60,q_61,q_62,q_63,q_64,q_65,q_66]) (WfE.wfE _) (WfE.wfE _) (fun key hkey=>by simp [mem0,key_low hkey 1 2 (by decide),key_low hkey 1 6 (by decide),key_low hkey 1 8 (by decide),key_low hkey 1 10 (by decide),h_4,h_8,h_28,h_29,h_35,h_41,q_55,q_56,q_57,q_58,q_59,q_60,q_61,q_62,q_63,q_64,q_65,q_66,hn_67 key (by simp [key_low hkey 1 2 (by decide),key_low hkey 1 6 (by decide),key_low hkey 1 8 (by decide),key_low hkey 1 10 (by decide)])]) (by simp) (by simp) (by simp) rfl (by decide) fun σ_73 qq_74 hq_75 hx_76 hk_77 he_78 hd_79 hm_80=>?_
       obtain ⟨q_81,q_82,q_83,q_84,q_85,q_86,q_87,q_88,q_89,q_90,q_91⟩:σ_73.env 1=uL .shr aStart∧σ_73.env 2=uP (1,2)∧σ_73.env 6=uP (1,6)∧σ_73.env 7=uB y_15.2∧σ_73.env 10=uP (1,10)∧σ_73.env 11=uB y_22.2∧σ_73.env 12=uI r_68.2∧σ_73.mem (1,2)=some [cL .shr aP.vars,cI aP.points,cL .shr aP.edges]∧σ_73.mem (1,6)=some [cL .own y_15.1.heap.vars,cL .own y_15.1.heap.next,cL .own y_15.1.edges,cI y_15.1.code]∧σ_73.mem (1,8)=some [cL .own r_42.1.vars,cI r_42.1.points,cL .own r_42.1.edges]∧σ_73.mem (1,10)=some [cL .own y_22.1.heap.vars,cL .own y_22.1.heap.next,cL .own y_22.1.edges,cI y_22.1.code]:=by refine ⟨(he_78 1 (by decide) (by decide) (by decide) (by decide) (by decide)).trans ?_,(he_78 2 (by decide) (by decide) (by decide) (by decide) (by decide)).trans ?_,(he_78 6 (by decide) (by decide) (by decide) (by decide) (by decide)).trans ?_,(he_78 7 (by decide) (by decide) (by decide) (by decide) (by decide)).trans ?_,(he_78 10 (by decide) (by decide) (by decide) (by decide) (by decide)).trans ?_,(he_78 11 (by decide) (by decide) (by decide) (by decide) (by decide)).trans ?_,hk_77,(hm_80 (1,2) (by decide) (by decide)).trans ?_,(hm_80 (1,6) (by decide) (by decide)).trans ?_,(hm_80 (1,8) (by decide) (by decide)).trans ?_,(hm_80 (1,10) (by decide) (by decide)).trans ?_⟩ <;> simp [h_4,h_8,h_28,h_29,h_35,h_41,q_55,q_56,q_57,q_58,q_59,q_60,q_61,q_62,q_63,q_64,q_65,q_66,hq_75 (1,2) (by decide) (by decide),hq_75 (1,6) (by decide) (by decide),hq_75 (1,8) (by decide) (by decide),hq_75 (1,10) (by decide) (by decide)]
       have hn_92:NoBox [(1,2),(1,6),(1,8),(1,10)] σ_73.mem:=by
        intro key hk
        by_cases hl:1 < key.1∨bigK≤key.2
        ·exact hd_79 key hl
        ·rw [hm_80 key (by omega) (by omega)]
         simp at hk
         simp [mem0,hk,h_4,h_8,h_28,h_29,h_35,h_41,q_55,q_56,q_57,q_58,q_59,q_60,q_61,q_62,q_63,q_64,q_65,q_66,hn_67 key (by simp [hk])]
       try simp [h_4,h_8,h_28,h_29,h_35,h_41,q_81,q_82,q_83,q_84,q_85,q_86,q_87,q_88,q_89,q_90,q_91]
       rcases zad hp with ⟨h_93,hp⟩|⟨h_93,hp⟩
       ·try simp at h_93
        cases hp
        simp [Goal,FnEnd,h_4,h_8,h_28,h_29,h_35,h_41,q_81,q_82,q_83,q_84,q_85,q_86,q_87,q_88,q_89,q_90,q_91,h_93]
       ·try simp at h_93
        obtain ⟨y_94,h_95,hp⟩:=zab hp
        have c_96:=C37_eq h_95
        simp at c_96
        try simp [h_4,h_8,h_28,h_29,h_35,h_41,q_81,q_82,q_83,q_84,q_85,q_86,q_87,q_88,q_89,q_90,q_91,h_93,c_96]
        rcases zad hp with ⟨h_97,hp⟩|⟨h_97,hp⟩
        ·try simp at h_97
         obtain ⟨r_98,h_99,hp⟩:=zab hp
         obtain ⟨lg_100,e_101⟩:=markO_eq h_99
         have mk_102:=mk38 G_38 G_20 G_21 y_22.1 1 lg_100
         rw [e_101] at mk_102
         try simp [h_4,h_8,h_28,h_29,h_35,h_41,q_81,q_82,q_83,q_84,q_85,q_86,q_87,q_88,q_89,q_90,q_91,h_93,h_97]
         refine goal_markB 10 10 13 83 84 85 38 mk_102 (show ti g6.P 65=some _ from ti_65) rfl rfl (by decide) (by simp [h_4,h_8,h_28,h_29,h_35,h_41,q_81,q_82,q_83,q_84,q_85,q_86,q_87,q_88,q_89,q_90,q_91,h_93,h_97]) (by simp [h_4,h_8,h_28,h_29,h_35,h_41,q_81,q_82,q_83,q_84,q_85,q_86,q_87,q_88,q_89,q_90,q_91,h_93,h_97]) (by simp [h_4,h_8,h_28,h_29,h_35,h_41,q_81,q_82,q_83,q_84,q_85,q_86,q_87,q_88,q_89,q_90,q_91,h_93,h_97]) (WfE.wfE _) (WfE.wfE _) (fun key hkey=>by simp [mem0,key_low hkey 1 2 (by decide),key_low hkey 1 6 (by decide),key_low hkey 1 8 (by decide),key_low hkey 1 10 (by decide),h_4,h_8,h_28,h_29,h_35,h_41,q_81,q_82,q_83,q_84,q_85,q_86,q_87,q_88,q_89,q_90,q_91,h_93,h_97,hn_92 key (by simp [key_low hkey 1 2 (by decide),key_low hkey 1 6 (by decide),key_low hkey 1 8 (by decide),key_low hkey 1 10 (by decide)])]) (by simp) (by simp) (by simp) rfl (by decide) fun σ_103 qq_104 hq_105 hx_106 hk_107 he_108 hd_109 hm_110=>?_
         obtain ⟨q_111,q_112,q_113,q_114,q_115,q_116,q_117,q_118,q_119,q_120⟩:σ_103.env 1=uL .shr aStart∧σ_103.env 2=uP (1,2)∧σ_103.env 6=uP (1,6)∧σ_103.env 7=uB y_15.2∧σ_103.env 10=uP (1,10)∧σ_103.env 13=uI r_98.2∧σ_103.mem (1,2)=some [cL .shr aP.vars,cI aP.points,cL .shr aP.edges]∧σ_103.mem (1,6)=some [cL .own y_15.1.heap.vars,cL .own y_15.1.heap.next,cL .own y_15.1.edges,cI y_15.1.code]∧σ_103.mem (1,8)=some [cL .own r_42.1.vars,cI r_42.1.points,cL .own r_42.1.edges]∧σ_103.mem (1,10)=some [cL .own r_98.1.heap.vars,cL .own r_98.1.heap.next,cL .own r_98.1.edges,cI r_98.1.code]:=by refine ⟨(he_108 1 (by decide) (by decide) (by decide) (by decide)).trans ?_,(he_108 2 (by decide) (by decide) (by decide) (by decide)).trans ?_,(he_108 6 (by decide) (by decide) (by decide) (by decide)).trans ?_,(he_108 7 (by decide) (by decide) (by decide) (by decide)).trans ?_,(he_108 10 (by decide) (by decide) (by decide) (by decide)).trans ?_,hk_107,(hm_110 (1,2) (by decide) (by decide) (by decide)).trans ?_,(hm_110 (1,6) (by decide) (by decide) (by decide)).trans ?_,(hm_110 (1,8) (by decide) (by decide) (by decide)).trans ?_,hx_106.trans (by simp)⟩ <;> simp [h_4,h_8,h_28,h_29,h_35,h_41,q_81,q_82,q_83,q_84,q_85,q_86,q_87,q_88,q_89,q_90,q_91,h_93,h_97,hq_105 (1,2) (by decide) (by decide),hq_105 (1,6) (by decide) (by decide),hq_105 (1,8) (by decide) (by decide),hq_105 (1,10) (by decide) (by decide)]
         have hn_121:NoBox [(1,2),(1,6),(1,8),(1,10)] σ_103.mem:=by
          intro key hk
          by_cases hl:1 < key.1∨bigK≤key.2
          ·exact hd_109 key hl
          ·rw [hm_110 key (by rintro rfl;simp at hk) (by omega) (by omega)]
           simp at hk
           simp [mem0,hk,h_4,h_8,h_28,h_29,h_35,h_41,q_81,q_82,q_83,q_84,q_85,q_86,q_87,q_88,q_89,q_90,q_91,h_93,h_97,hn_92 key (by simp [hk])]
         obtain ⟨y_122,h_123,hp⟩:=zab hp
         have c_124:=C39_eq h_123
         simp at c_124
         try simp [h_4,h_8,h_28,h_29,h_35,h_41,h_93,h_97,q_111,q_112,q_113,q_114,q_115,q_116,q_117,q_118,q_119,q_120,c_124]
         rcases zad hp with ⟨h_125,hp⟩|⟨h_125,hp⟩
         ·try simp at h_125
          cases hp
          simp [Goal,FnEnd,h_4,h_8,h_28,h_29,h_35,h_41,h_93,h_97,q_111,q_112,q_113,q_114,q_115,q_116,q_117,q_118,q_119,q_120,h_125]
         ·try simp at h_125
          try simp [h_4,h_8,h_28,h_29,h_35,h_41,h_93,h_97,q_111,q_112,q_113,q_114,q_115,q_116,q_117,q_118,q_119,q_120,h_125]
          rcases zad hp with ⟨h_126,hp⟩|⟨h_126,hp⟩
          ·try simp at h_126
           cases hp
           simp [Goal,FnEnd,h_4,h_8,h_28,h_29,h_35,h_41,h_93,h_97,q_111,q_112,q_113,q_114,q_115,q_116,q_117,q_118,q_119,q_120,h_125,h_126]
          ·try simp at h_126
           obtain ⟨y_127,h_128,hp⟩:=zab hp
           have c_129:=C11_eq h_128
           simp at c_129
           obtain ⟨y_130,h_131,hp⟩:=zab hp
           have c_132:=C26_eq h_131
           simp at c_132
           obtain ⟨y_133,h_134,hp⟩:=zab hp
           have c_135:=C36_eq h_134
           simp at c_135
           have n_136:=hn_121 (1,15) (by simp)
           obtain ⟨y_137,h_138,hp⟩:=zab hp
           have c_139:=C37_eq h_138
           simp at c_139
           try simp [h_4,h_8,h_28,h_29,h_35,h_41,h_93,h_97,q_111,q_112,q_113,q_114,q_115,q_116,q_117,q_118,q_119,q_120,h_125,h_126,c_129,c_132,c_135,n_136,c_139]
           rcases zad hp with ⟨h_140,hp⟩|⟨h_140,hp⟩
           ·try simp at h_140
            try simp [h_4,h_8,h_28,h_29,h_35,h_41,h_93,h_97,q_111,q_112,q_113,q_114,q_115,q_116,q_117,q_118,q_119,q_120,h_125,h_126,h_140]
            rcases zad hp with ⟨h_141,hp⟩|⟨h_141,hp⟩
            ·try simp at h_141
             cases hp
             simp [Goal,FnEnd,h_4,h_8,h_28,h_29,h_35,h_41,h_93,h_97,q_111,q_112,q_113,q_114,q_115,q_116,q_117,q_118,q_119,q_120,h_125,h_126,h_140,h_141]
            ·try simp at h_141
             obtain ⟨y_142,h_143,hp⟩:=zab hp
             cases Option.some.inj (h_123.symm.trans h_143)
             cases hp
             simp [Goal,FnEnd,h_4,h_8,h_28,h_29,h_35,h_41,h_93,h_97,q_111,q_112,q_113,q_114,q_115,q_116,q_117,q_118,q_119,q_120,h_125,h_126,h_140,h_141,c_124]
           ·try simp at h_140
            cases hp
            simp [Goal,FnEnd,h_4,h_8,h_28,h_29,h_35,h_41,h_93,h_97,q_111,q_112,q_113,q_114,q_115,q_116,q_117,q_118,q_119,q_120,h_125,h_126,h_140]
        ·try simp at h_97
         cases hp
         simp [Goal,FnEnd,h_4,h_8,h_28,h_29,h_35,h_41,q_81,q_82,q_83,q_84,q_85,q_86,q_87,q_88,q_89,q_90,q_91,h_93,h_97]
      ·try simp at h_41
       cases hp
       simp [Goal,FnEnd,h_4,h_8,h_28,h_29,h_35,h_41]
     ·try simp at h_35
      cases hp
      simp [Goal,FnEnd,h_4,h_8,h_28,h_29,h_35]
   ·try simp at h_28
    cases hp
    simp [Goal,FnEnd,h_4,h_8,h_28]
theorem pc6:PC Tryz.prog 6 C6:=pc_of (g:=g6) (zaj _ g6_s.2.1 ⟨pc8,pc11,pc16,pc24,pc26,pc28,pc35,pc36,pc37,pc39,pc110,trivial⟩) (ent Tryz.func6) fun x y h=>w6 h
end Go.Proofs

