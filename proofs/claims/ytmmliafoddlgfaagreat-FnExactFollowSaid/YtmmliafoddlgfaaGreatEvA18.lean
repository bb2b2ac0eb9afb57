import Derived.Test.YtmmliafoddlgfaaGreatEvA17
set_option linter.unusedSimpArgs false
set_option linter.unusedVariables false
set_option linter.unnecessarySimpa false
set_option maxHeartbeats 4000000
set_option maxRecDepth 100000
namespace Go.Proofs
open Go.Ev
noncomputable def C18 : List AV → Option AV := specP (X := (List Int) × (List Int) × Unit) fun x => laws_eqIntS x.1 x.2.1
theorem C18_eq {a_ b_} {y} (h : laws_eqIntS a_ b_ = some y) : C18 [av .shr a_, av .shr b_] = some (Res.res y) := zag (X := (List Int) × (List Int) × Unit) (F := fun x => laws_eqIntS x.1 x.2.1) (x := (a_, b_, ())) h
noncomputable def g18 : Cfg := { P := Tryz.prog, take := [], keep := [((18, 4), { hd := [0, 1, 5], bx := [], ex := [], rt := [4] })], gho := [], ctx := [] }
@[simp] theorem g18_s : g18.P = Tryz.prog ∧ g18.take = [] ∧ g18.gho = [] ∧ g18.ro = [] ∧ g18.away = [] ∧ g18.give = [] ∧ g18.octx = [] := by rw [g18]; exact ⟨rfl, rfl, rfl, rfl, rfl, rfl, rfl⟩
theorem w18 {a_ b_} {y} (hp : laws_eqIntS a_ b_ = some y) : ∃ m, callo g18 0 18 [av .shr a_, av .shr b_] mem0 = some (Res.res y, m) := by
  refine zah (Tryz.f18.body.getD .skip) [.tmp 4] rfl rfl Tryz.func18 (by kernel_rfl) (by kernel_rfl) (by simp [Tryz.ntmps18]) rfl ?_
  unfold laws_eqIntS at hp
  simp [Tryz.f18]
  rcases zad hp with ⟨h_1, hp⟩ | ⟨h_1, hp⟩
  ·try simp at h_1
   cases hp
   simp [Goal, FnEnd, h_1]
  ·try simp at h_1
   try simp [h_1]
   obtain ⟨r_23, h_24, hp⟩ := zaa hp
   obtain ⟨I_4, I_4_⟩ : ∃ I : Int → St → Prop, I = (fun (s_2 : Int) (σ : St) => σ.env 0 = .one (.l .shr a_.length (encL a_)) ∧ σ.env 1 = .one (.l .shr b_.length (encL b_)) ∧ σ.env 5 = .one (.s (.int .i64 s_2)) ∧ σ.mem = mem0) := ⟨_, rfl⟩
   obtain ⟨X_5, X_5_⟩ : ∃ X : ((Unit) ⊕ (Unit)) → Out → Prop, X = (fun (r_23 : (Unit) ⊕ (Unit)) (out : Out) => Sum.elim (fun r_23 => ∃ σ : St, out = .ret σ ∧ σ.env 4 = .one (.s (.bool false)) ∧ σ.mem = mem0) (fun r_23 => ∃ σ : St, out = .exit 0 σ ∧ σ.mem = mem0) r_23) := ⟨_, rfl⟩
   refine loopP ({ hd := [0, 1, 5], bx := [], ex := [], rt := [4] }) I_4 X_5 h_24 (by exact rfl) ?_ ?_ ?_
   ·rw [I_4_]
    refine ⟨?_, ?_, ?_, ?_⟩ <;> simp [zab, zac, h_1]
   ·intro s_2 σ_6 a_3 hI hp
    rw [I_4_] at hI
    obtain ⟨q_7, q_8, q_9, q_10⟩ := hI
    try simp [h_1, q_7, q_8, q_9, q_10]
    rcases zad hp with ⟨h_11, hp⟩ | ⟨h_11, hp⟩
    ·try simp at h_11
     obtain ⟨e_12, h_13, hp⟩ := zaa hp
     have b_14 := at_lo h_13
     have b_15 := at_hi h_13
     try simp at b_14 b_15
     have c_16 := seg_at' h_13 0 1 (by decide) (ds := [.sc (.int .i64 e_12)]) rfl
     try simp at c_16
     obtain ⟨e_17, h_18, hp⟩ := zaa hp
     have b_19 := at_lo h_18
     have b_20 := at_hi h_18
     try simp at b_19 b_20
     have c_21 := seg_at' h_18 0 1 (by decide) (ds := [.sc (.int .i64 e_17)]) rfl
     try simp at c_21
     try simp [h_1, q_7, q_8, q_9, q_10, h_11, b_14, b_15, c_16, b_19, b_20, c_21]
     rcases zad hp with ⟨h_22, hp⟩ | ⟨h_22, hp⟩
     ·try simp at h_22
      cases hp
      try simp [h_1, q_7, q_8, q_9, q_10, h_11, h_22]
      refine zao ?_
      rw [X_5_]
      refine ⟨_, rfl, ?_, ?_⟩ <;> simp [zab, zac, h_1, q_7, q_8, q_9, q_10, h_11, h_22]
     ·try simp at h_22
      cases hp
      try simp [h_1, q_7, q_8, q_9, q_10, h_11, h_22]
      refine zak ?_
      rw [I_4_]
      refine ⟨?_, ?_, ?_, ?_⟩ <;> simp [zab, zac, h_1, q_7, q_8, q_9, q_10, h_11, h_22]
    ·try simp at h_11
     cases hp
     try simp [h_1, q_7, q_8, q_9, q_10, h_11]
     refine zan ?_
     rw [X_5_]
     exact ⟨_, rfl, by simp [zac, h_1, q_7, q_8, q_9, q_10, h_11]⟩
   ·intro out hX
    rw [X_5_] at hX
    rcases r_23 with r_23 | r_23
    ·simp only [Sum.elim_inl, Sum.elim_inr] at hX hp
     obtain ⟨σ_25, rfl, q_26, q_27⟩ := hX
     cases hp
     simp [Goal, FnEnd, h_1, q_26, q_27]
    ·simp only [Sum.elim_inl, Sum.elim_inr] at hX hp
     obtain ⟨σ_28, rfl, q_29⟩ := hX
     cases hp
     simp [Goal, FnEnd, h_1, q_29]
theorem pc18 : PC Tryz.prog 18 C18 := pc_of (g := g18) (zai [] rfl trivial) ⟨Tryz.f18, Tryz.func18, by kernel_rfl, by kernel_rfl⟩ fun x y h => w18 h

noncomputable def C17 : List AV → Option AV := specP (X := THeap × THeap × Unit) fun x => laws_eqHeap x.1 x.2.1
theorem C17_eq {a_ b_} {y} (h : laws_eqHeap a_ b_ = some y) : C17 [av .shr a_, av .shr b_] = some (Res.res y) := zag (X := THeap × THeap × Unit) (F := fun x => laws_eqHeap x.1 x.2.1) (x := (a_, b_, ())) h
noncomputable def g17 : Cfg := { P := Tryz.prog, take := [], keep := [], gho := [], ctx := [(18, C18)] }
@[simp] theorem g17_s : g17.P = Tryz.prog ∧ g17.take = [] ∧ g17.gho = [] ∧ g17.ro = [] ∧ g17.away = [] ∧ g17.give = [] ∧ g17.octx = [] ∧ lookN 18 g17.ctx = some C18 := by rw [g17]; exact ⟨rfl, rfl, rfl, rfl, rfl, rfl, rfl, rfl⟩
theorem w17 {a_ b_} {y} (hp : laws_eqHeap a_ b_ = some y) : ∃ m, callo g17 0 17 [av .shr a_, av .shr b_] mem0 = some (Res.res y, m) := by
  refine zah (Tryz.f17.body.getD .skip) [.tmp 4] rfl rfl Tryz.func17 (by kernel_rfl) (by kernel_rfl) (by simp [Tryz.ntmps17]) rfl ?_
  unfold laws_eqHeap at hp
  obtain ⟨y_1, h_2, hp⟩ := zaa hp
  have c_3 := C18_eq h_2
  simp at c_3
  simp [Tryz.f17, c_3]
  rcases zad hp with ⟨h_4, hp⟩ | ⟨h_4, hp⟩
  ·try simp at h_4
   obtain ⟨y_5, h_6, hp⟩ := zaa hp
   have c_7 := C18_eq h_6
   simp at c_7
   try simp [h_4, c_7]
   rcases zad hp with ⟨h_8, hp⟩ | ⟨h_8, hp⟩
   ·try simp at h_8
    cases hp
    simp [Goal, FnEnd, h_4, h_8]
   ·try simp at h_8
    cases hp
    simp [Goal, FnEnd, h_4, h_8]
  ·try simp at h_4
   cases hp
   simp [Goal, FnEnd, h_4]
theorem pc17 : PC Tryz.prog 17 C17 := pc_of (g := g17) (zai [(18, C18)] rfl ⟨pc18, trivial⟩) ⟨Tryz.f17, Tryz.func17, by kernel_rfl, by kernel_rfl⟩ fun x y h => w17 h

noncomputable def C15 : List AV → Option AV := specP (X := TState × TState × Unit) fun x => laws_eqState x.1 x.2.1
theorem C15_eq {a_ b_} {y} (h : laws_eqState a_ b_ = some y) : C15 [av .shr a_, av .shr b_] = some (Res.res y) := zag (X := TState × TState × Unit) (F := fun x => laws_eqState x.1 x.2.1) (x := (a_, b_, ())) h
noncomputable def g15 : Cfg := { P := Tryz.prog, take := [], keep := [], gho := [], ctx := [(17, C17)] }
@[simp] theorem g15_s : g15.P = Tryz.prog ∧ g15.take = [] ∧ g15.gho = [] ∧ g15.ro = [] ∧ g15.away = [] ∧ g15.give = [] ∧ g15.octx = [] ∧ lookN 17 g15.ctx = some C17 := by rw [g15]; exact ⟨rfl, rfl, rfl, rfl, rfl, rfl, rfl, rfl⟩
theorem w15 {a_ b_} {y} (hp : laws_eqState a_ b_ = some y) : ∃ m, callo g15 0 15 [av .shr a_, av .shr b_] mem0 = some (Res.res y, m) := by
  refine zah (Tryz.f15.body.getD .skip) [.tmp 4] rfl rfl Tryz.func15 (by kernel_rfl) (by kernel_rfl) (by simp [Tryz.ntmps15]) rfl ?_
  unfold laws_eqState at hp
  simp [Tryz.f15]
  rcases zad hp with ⟨h_1, hp⟩ | ⟨h_1, hp⟩
  ·try simp at h_1
   cases hp
   simp [Goal, FnEnd, h_1]
  ·try simp at h_1
   obtain ⟨y_2, h_3, hp⟩ := zaa hp
   have c_4 := C17_eq h_3
   simp at c_4
   try simp [h_1, c_4]
   rcases zad hp with ⟨h_5, hp⟩ | ⟨h_5, hp⟩
   ·try simp at h_5
    cases hp
    simp [Goal, FnEnd, h_1, h_5]
   ·try simp at h_5
    cases hp
    simp [Goal, FnEnd, h_1, h_5]
theorem pc15 : PC Tryz.prog 15 C15 := pc_of (g := g15) (zai [(17, C17)] rfl ⟨pc17, trivial⟩) ⟨Tryz.f15, Tryz.func15, by kernel_rfl, by kernel_rfl⟩ fun x y h => w15 h

noncomputable def C58 : List AV → Option AV := specP (X := (List ByteArray) × (List ByteArray) × Unit) fun x => laws_eqStringS x.1 x.2.1
theorem C58_eq {a_ b_} {y} (h : laws_eqStringS a_ b_ = some y) : C58 [av .shr a_, av .shr b_] = some (Res.res y) := zag (X := (List ByteArray) × (List ByteArray) × Unit) (F := fun x => laws_eqStringS x.1 x.2.1) (x := (a_, b_, ())) h
noncomputable def g58 : Cfg := { P := Tryz.prog, take := [], keep := [((58, 4), { hd := [0, 1, 5], bx := [], ex := [], rt := [4] })], gho := [], ctx := [] }
@[simp] theorem g58_s : g58.P = Tryz.prog ∧ g58.take = [] ∧ g58.gho = [] ∧ g58.ro = [] ∧ g58.away = [] ∧ g58.give = [] ∧ g58.octx = [] := by rw [g58]; exact ⟨rfl, rfl, rfl, rfl, rfl, rfl, rfl⟩
theorem w58 {a_ b_} {y} (hp : laws_eqStringS a_ b_ = some y) : ∃ m, callo g58 0 58 [av .shr a_, av .shr b_] mem0 = some (Res.res y, m) := by
  refine zah (Tryz.f58.body.getD .skip) [.tmp 4] rfl rfl Tryz.func58 (by kernel_rfl) (by kernel_rfl) (by simp [Tryz.ntmps58]) rfl ?_
  unfold laws_eqStringS at hp
  simp [Tryz.f58]
  rcases zad hp with ⟨h_1, hp⟩ | ⟨h_1, hp⟩
  ·try simp at h_1
   cases hp
   simp [Goal, FnEnd, h_1]
  ·try simp at h_1
   try simp [h_1]
   obtain ⟨r_23, h_24, hp⟩ := zaa hp
   obtain ⟨I_4, I_4_⟩ : ∃ I : Int → St → Prop, I = (fun (s_2 : Int) (σ : St) => σ.env 0 = .one (.l .shr a_.length (encL a_)) ∧ σ.env 1 = .one (.l .shr b_.length (encL b_)) ∧ σ.env 5 = .one (.s (.int .i64 s_2)) ∧ σ.mem = mem0) := ⟨_, rfl⟩
   obtain ⟨X_5, X_5_⟩ : ∃ X : ((Unit) ⊕ (Unit)) → Out → Prop, X = (fun (r_23 : (Unit) ⊕ (Unit)) (out : Out) => Sum.elim (fun r_23 => ∃ σ : St, out = .ret σ ∧ σ.env 4 = .one (.s (.bool false)) ∧ σ.mem = mem0) (fun r_23 => ∃ σ : St, out = .exit 0 σ ∧ σ.mem = mem0) r_23) := ⟨_, rfl⟩
   refine loopP ({ hd := [0, 1, 5], bx := [], ex := [], rt := [4] }) I_4 X_5 h_24 (by exact rfl) ?_ ?_ ?_
   ·rw [I_4_]
    refine ⟨?_, ?_, ?_, ?_⟩ <;> simp [zab, zac, h_1]
   ·intro s_2 σ_6 a_3 hI hp
    rw [I_4_] at hI
    obtain ⟨q_7, q_8, q_9, q_10⟩ := hI
    try simp [h_1, q_7, q_8, q_9, q_10]
    rcases zad hp with ⟨h_11, hp⟩ | ⟨h_11, hp⟩
    ·try simp at h_11
     obtain ⟨e_12, h_13, hp⟩ := zaa hp
     have b_14 := at_lo h_13
     have b_15 := at_hi h_13
     try simp at b_14 b_15
     have c_16 := seg_at' h_13 0 1 (by decide) (ds := [.sc (.string e_12)]) rfl
     try simp at c_16
     obtain ⟨e_17, h_18, hp⟩ := zaa hp
     have b_19 := at_lo h_18
     have b_20 := at_hi h_18
     try simp at b_19 b_20
     have c_21 := seg_at' h_18 0 1 (by decide) (ds := [.sc (.string e_17)]) rfl
     try simp at c_21
     try simp [h_1, q_7, q_8, q_9, q_10, h_11, b_14, b_15, c_16, b_19, b_20, c_21]
     rcases zad hp with ⟨h_22, hp⟩ | ⟨h_22, hp⟩
     ·try simp at h_22
      cases hp
      try simp [h_1, q_7, q_8, q_9, q_10, h_11, h_22]
      refine zao ?_
      rw [X_5_]
      refine ⟨_, rfl, ?_, ?_⟩ <;> simp [zab, zac, h_1, q_7, q_8, q_9, q_10, h_11, h_22]
     ·try simp at h_22
      cases hp
      try simp [h_1, q_7, q_8, q_9, q_10, h_11, h_22]
      refine zak ?_
      rw [I_4_]
      refine ⟨?_, ?_, ?_, ?_⟩ <;> simp [zab, zac, h_1, q_7, q_8, q_9, q_10, h_11, h_22]
    ·try simp at h_11
     cases hp
     try simp [h_1, q_7, q_8, q_9, q_10, h_11]
     refine zan ?_
     rw [X_5_]
     exact ⟨_, rfl, by simp [zac, h_1, q_7, q_8, q_9, q_10, h_11]⟩
   ·intro out hX
    rw [X_5_] at hX
    rcases r_23 with r_23 | r_23
    ·simp only [Sum.elim_inl, Sum.elim_inr] at hX hp
     obtain ⟨σ_25, rfl, q_26, q_27⟩ := hX
     cases hp
     simp [Goal, FnEnd, h_1, q_26, q_27]
    ·simp only [Sum.elim_inl, Sum.elim_inr] at hX hp
     obtain ⟨σ_28, rfl, q_29⟩ := hX
     cases hp
     simp [Goal, FnEnd, h_1, q_29]
theorem pc58 : PC Tryz.prog 58 C58 := pc_of (g := g58) (zai [] rfl trivial) ⟨Tryz.f58, Tryz.func58, by kernel_rfl, by kernel_rfl⟩ fun x y h => w58 h

noncomputable def C145 : List AV → Option AV := specP (X := TStmt × TStmt × Unit) fun x => laws_eqStmt x.1 x.2.1
theorem C145_eq {a_ b_} {y} (h : laws_eqStmt a_ b_ = some y) : C145 [av .shr a_, av .shr b_] = some (Res.res y) := zag (X := TStmt × TStmt × Unit) (F := fun x => laws_eqStmt x.1 x.2.1) (x := (a_, b_, ())) h
noncomputable def g145 : Cfg := { P := Tryz.prog, take := [], keep := [], gho := [], ctx := [] }
@[simp] theorem g145_s : g145.P = Tryz.prog ∧ g145.take = [] ∧ g145.gho = [] ∧ g145.ro = [] ∧ g145.away = [] ∧ g145.give = [] ∧ g145.octx = [] := by rw [g145]; exact ⟨rfl, rfl, rfl, rfl, rfl, rfl, rfl⟩
theorem w145 {a_ b_} {y} (hp : laws_eqStmt a_ b_ = some y) : ∃ m, callo g145 0 145 [av .shr a_, av .shr b_] mem0 = some (Res.res y, m) := by
  refine zah (Tryz.f145.body.getD .skip) [.tmp 4] rfl rfl Tryz.func145 (by kernel_rfl) (by kernel_rfl) (by simp [Tryz.ntmps145]) rfl ?_
  unfold laws_eqStmt at hp
  simp [Tryz.f145]
  rcases zad hp with ⟨h_1, hp⟩ | ⟨h_1, hp⟩
  ·try simp at h_1
   cases hp
   simp [Goal, FnEnd, h_1]
  ·try simp at h_1
   try simp [h_1]
   rcases zad hp with ⟨h_2, hp⟩ | ⟨h_2, hp⟩
   ·try simp at h_2
    cases hp
    simp [Goal, FnEnd, h_1, h_2]
   ·try simp at h_2
    try simp [h_1, h_2]
    rcases zad hp with ⟨h_3, hp⟩ | ⟨h_3, hp⟩
    ·try simp at h_3
     cases hp
     simp [Goal, FnEnd, h_1, h_2, h_3]
    ·try simp at h_3
     cases hp
     simp [Goal, FnEnd, h_1, h_2, h_3]
theorem pc145 : PC Tryz.prog 145 C145 := pc_of (g := g145) (zai [] rfl trivial) ⟨Tryz.f145, Tryz.func145, by kernel_rfl, by kernel_rfl⟩ fun x y h => w145 h

noncomputable def C109 : List AV → Option AV := specP (X := TEdge × TEdge × Unit) fun x => laws_eqEdge x.1 x.2.1
theorem C109_eq {a_ b_} {y} (h : laws_eqEdge a_ b_ = some y) : C109 [av .shr a_, av .shr b_] = some (Res.res y) := zag (X := TEdge × TEdge × Unit) (F := fun x => laws_eqEdge x.1 x.2.1) (x := (a_, b_, ())) h
noncomputable def g109 : Cfg := { P := Tryz.prog, take := [], keep := [], gho := [], ctx := [(145, C145)] }
@[simp] theorem g109_s : g109.P = Tryz.prog ∧ g109.take = [] ∧ g109.gho = [] ∧ g109.ro = [] ∧ g109.away = [] ∧ g109.give = [] ∧ g109.octx = [] ∧ lookN 145 g109.ctx = some C145 := by rw [g109]; exact ⟨rfl, rfl, rfl, rfl, rfl, rfl, rfl, rfl⟩
theorem w109 {a_ b_} {y} (hp : laws_eqEdge a_ b_ = some y) : ∃ m, callo g109 0 109 [av .shr a_, av .shr b_] mem0 = some (Res.res y, m) := by
  refine zah (Tryz.f109.body.getD .skip) [.tmp 4] rfl rfl Tryz.func109 (by kernel_rfl) (by kernel_rfl) (by simp [Tryz.ntmps109]) rfl ?_
  unfold laws_eqEdge at hp
  simp [Tryz.f109]
  rcases zad hp with ⟨h_1, hp⟩ | ⟨h_1, hp⟩
  ·try simp at h_1
   cases hp
   simp [Goal, FnEnd, h_1]
  ·try simp at h_1
   try simp [h_1]
   rcases zad hp with ⟨h_2, hp⟩ | ⟨h_2, hp⟩
   ·try simp at h_2
    cases hp
    simp [Goal, FnEnd, h_1, h_2]
   ·try simp at h_2
    obtain ⟨y_3, h_4, hp⟩ := zaa hp
    have c_5 := C145_eq h_4
    simp at c_5
    try simp [h_1, h_2, c_5]
    rcases zad hp with ⟨h_6, hp⟩ | ⟨h_6, hp⟩
    ·try simp at h_6
     cases hp
     simp [Goal, FnEnd, h_1, h_2, h_6]
    ·try simp at h_6
     cases hp
     simp [Goal, FnEnd, h_1, h_2, h_6]
theorem pc109 : PC Tryz.prog 109 C109 := pc_of (g := g109) (zai [(145, C145)] rfl ⟨pc145, trivial⟩) ⟨Tryz.f109, Tryz.func109, by kernel_rfl, by kernel_rfl⟩ fun x y h => w109 h

noncomputable def C59 : List AV → Option AV := specP (X := (List TEdge) × (List TEdge) × Unit) fun x => laws_eqEdgeS x.1 x.2.1
theorem C59_eq {a_ b_} {y} (h : laws_eqEdgeS a_ b_ = some y) : C59 [av .shr a_, av .shr b_] = some (Res.res y) := zag (X := (List TEdge) × (List TEdge) × Unit) (F := fun x => laws_eqEdgeS x.1 x.2.1) (x := (a_, b_, ())) h
noncomputable def g59 : Cfg := { P := Tryz.prog, take := [], keep := [((59, 4), { hd := [0, 1, 5], bx := [], ex := [], rt := [4] })], gho := [], ctx := [(109, C109)] }
@[simp] theorem g59_s : g59.P = Tryz.prog ∧ g59.take = [] ∧ g59.gho = [] ∧ g59.ro = [] ∧ g59.away = [] ∧ g59.give = [] ∧ g59.octx = [] ∧ lookN 109 g59.ctx = some C109 := by rw [g59]; exact ⟨rfl, rfl, rfl, rfl, rfl, rfl, rfl, rfl⟩
theorem w59 {a_ b_} {y} (hp : laws_eqEdgeS a_ b_ = some y) : ∃ m, callo g59 0 59 [av .shr a_, av .shr b_] mem0 = some (Res.res y, m) := by
  refine zah (Tryz.f59.body.getD .skip) [.tmp 4] rfl rfl Tryz.func59 (by kernel_rfl) (by kernel_rfl) (by simp [Tryz.ntmps59]) rfl ?_
  unfold laws_eqEdgeS at hp
  simp [Tryz.f59]
  rcases zad hp with ⟨h_1, hp⟩ | ⟨h_1, hp⟩
  ·try simp at h_1
   cases hp
   simp [Goal, FnEnd, h_1]
  ·try simp at h_1
   try simp [h_1]
   obtain ⟨r_26, h_27, hp⟩ := zaa hp
   obtain ⟨I_4, I_4_⟩ : ∃ I : Int → St → Prop, I = (fun (s_2 : Int) (σ : St) => σ.env 0 = .one (.l .shr a_.length (encL a_)) ∧ σ.env 1 = .one (.l .shr b_.length (encL b_)) ∧ σ.env 5 = .one (.s (.int .i64 s_2)) ∧ σ.mem = mem0) := ⟨_, rfl⟩
   obtain ⟨X_5, X_5_⟩ : ∃ X : ((Unit) ⊕ (Unit)) → Out → Prop, X = (fun (r_26 : (Unit) ⊕ (Unit)) (out : Out) => Sum.elim (fun r_26 => ∃ σ : St, out = .ret σ ∧ σ.env 4 = .one (.s (.bool false)) ∧ σ.mem = mem0) (fun r_26 => ∃ σ : St, out = .exit 0 σ ∧ σ.mem = mem0) r_26) := ⟨_, rfl⟩
   refine loopP ({ hd := [0, 1, 5], bx := [], ex := [], rt := [4] }) I_4 X_5 h_27 (by exact rfl) ?_ ?_ ?_
   ·rw [I_4_]
    refine ⟨?_, ?_, ?_, ?_⟩ <;> simp [zab, zac, h_1]
   ·intro s_2 σ_6 a_3 hI hp
    rw [I_4_] at hI
    obtain ⟨q_7, q_8, q_9, q_10⟩ := hI
    try simp [h_1, q_7, q_8, q_9, q_10]
    rcases zad hp with ⟨h_11, hp⟩ | ⟨h_11, hp⟩
    ·try simp at h_11
     obtain ⟨e_12, h_13, hp⟩ := zaa hp
     have b_14 := at_lo h_13
     have b_15 := at_hi h_13
     try simp at b_14 b_15
     have c_16 := seg_at' h_13 0 5 (by decide) (ds := [.sc (.int .i64 e_12.from_), .sc (.int .i64 e_12.to_), .sc (.int .i64 e_12.stmt.kind), .sc (.string e_12.stmt.a), .sc (.string e_12.stmt.b)]) rfl
     try simp at c_16
     obtain ⟨e_17, h_18, hp⟩ := zaa hp
     have b_19 := at_lo h_18
     have b_20 := at_hi h_18
     try simp at b_19 b_20
     have c_21 := seg_at' h_18 0 5 (by decide) (ds := [.sc (.int .i64 e_17.from_), .sc (.int .i64 e_17.to_), .sc (.int .i64 e_17.stmt.kind), .sc (.string e_17.stmt.a), .sc (.string e_17.stmt.b)]) rfl
     try simp at c_21
     obtain ⟨y_22, h_23, hp⟩ := zaa hp
     have c_24 := C109_eq h_23
     simp at c_24
     try simp [h_1, q_7, q_8, q_9, q_10, h_11, b_14, b_15, c_16, b_19, b_20, c_21, c_24]
     rcases zad hp with ⟨h_25, hp⟩ | ⟨h_25, hp⟩
     ·try simp at h_25
      cases hp
      try simp [h_1, q_7, q_8, q_9, q_10, h_11, h_25]
      refine zak ?_
      rw [I_4_]
      refine ⟨?_, ?_, ?_, ?_⟩ <;> simp [zab, zac, h_1, q_7, q_8, q_9, q_10, h_11, h_25]
     ·try simp at h_25
      cases hp
      try simp [h_1, q_7, q_8, q_9, q_10, h_11, h_25]
      refine zao ?_
      rw [X_5_]
      refine ⟨_, rfl, ?_, ?_⟩ <;> simp [zab, zac, h_1, q_7, q_8, q_9, q_10, h_11, h_25]
    ·try simp at h_11
     cases hp
     try simp [h_1, q_7, q_8, q_9, q_10, h_11]
     refine zan ?_
     rw [X_5_]
     exact ⟨_, rfl, by simp [zac, h_1, q_7, q_8, q_9, q_10, h_11]⟩
   ·intro out hX
    rw [X_5_] at hX
    rcases r_26 with r_26 | r_26
    ·simp only [Sum.elim_inl, Sum.elim_inr] at hX hp
     obtain ⟨σ_28, rfl, q_29, q_30⟩ := hX
     cases hp
     simp [Goal, FnEnd, h_1, q_29, q_30]
    ·simp only [Sum.elim_inl, Sum.elim_inr] at hX hp
     obtain ⟨σ_31, rfl, q_32⟩ := hX
     cases hp
     simp [Goal, FnEnd, h_1, q_32]
theorem pc59 : PC Tryz.prog 59 C59 := pc_of (g := g59) (zai [(109, C109)] rfl ⟨pc109, trivial⟩) ⟨Tryz.f59, Tryz.func59, by kernel_rfl, by kernel_rfl⟩ fun x y h => w59 h

noncomputable def C16 : List AV → Option AV := specP (X := TProgram × TProgram × Unit) fun x => laws_eqProgram x.1 x.2.1
theorem C16_eq {a_ b_} {y} (h : laws_eqProgram a_ b_ = some y) : C16 [av .shr a_, av .shr b_] = some (Res.res y) := zag (X := TProgram × TProgram × Unit) (F := fun x => laws_eqProgram x.1 x.2.1) (x := (a_, b_, ())) h
noncomputable def g16 : Cfg := { P := Tryz.prog, take := [], keep := [], gho := [], ctx := [(58, C58), (59, C59)] }
@[simp] theorem g16_s : g16.P = Tryz.prog ∧ g16.take = [] ∧ g16.gho = [] ∧ g16.ro = [] ∧ g16.away = [] ∧ g16.give = [] ∧ g16.octx = [] ∧ lookN 58 g16.ctx = some C58 ∧ lookN 59 g16.ctx = some C59 := by rw [g16]; exact ⟨rfl, rfl, rfl, rfl, rfl, rfl, rfl, rfl, rfl⟩
theorem w16 {a_ b_} {y} (hp : laws_eqProgram a_ b_ = some y) : ∃ m, callo g16 0 16 [av .shr a_, av .shr b_] mem0 = some (Res.res y, m) := by
  refine zah (Tryz.f16.body.getD .skip) [.tmp 4] rfl rfl Tryz.func16 (by kernel_rfl) (by kernel_rfl) (by simp [Tryz.ntmps16]) rfl ?_
  unfold laws_eqProgram at hp
  obtain ⟨y_1, h_2, hp⟩ := zaa hp
  have c_3 := C58_eq h_2
  simp at c_3
  simp [Tryz.f16, c_3]
  rcases zad hp with ⟨h_4, hp⟩ | ⟨h_4, hp⟩
  ·try simp at h_4
   try simp [h_4]
   rcases zad hp with ⟨h_5, hp⟩ | ⟨h_5, hp⟩
   ·try simp at h_5
    cases hp
    simp [Goal, FnEnd, h_4, h_5]
   ·try simp at h_5
    obtain ⟨y_6, h_7, hp⟩ := zaa hp
    have c_8 := C59_eq h_7
    simp at c_8
    try simp [h_4, h_5, c_8]
    rcases zad hp with ⟨h_9, hp⟩ | ⟨h_9, hp⟩
    ·try simp at h_9
     cases hp
     simp [Goal, FnEnd, h_4, h_5, h_9]
    ·try simp at h_9
     cases hp
     simp [Goal, FnEnd, h_4, h_5, h_9]
  ·try simp at h_4
   cases hp
   simp [Goal, FnEnd, h_4]
theorem pc16 : PC Tryz.prog 16 C16 := pc_of (g := g16) (zai [(58, C58), (59, C59)] rfl ⟨pc58, pc59, trivial⟩) ⟨Tryz.f16, Tryz.func16, by kernel_rfl, by kernel_rfl⟩ fun x y h => w16 h

noncomputable def C70 : List AV → Option AV := specP (X := (List Int) × Int × Unit) fun x => laws_heldIntS x.1 x.2.1
theorem C70_eq {a_ k_} {y} (h : laws_heldIntS a_ k_ = some y) : C70 [av .shr a_, av .shr k_] = some (Res.res y) := zag (X := (List Int) × Int × Unit) (F := fun x => laws_heldIntS x.1 x.2.1) (x := (a_, k_, ())) h
noncomputable def g70 : Cfg := { P := Tryz.prog, take := [], keep := [((70, 2), { hd := [0, 1, 5], bx := [], ex := [1], rt := [4] })], gho := [], ctx := [] }
@[simp] theorem g70_s : g70.P = Tryz.prog ∧ g70.take = [] ∧ g70.gho = [] ∧ g70.ro = [] ∧ g70.away = [] ∧ g70.give = [] ∧ g70.octx = [] := by rw [g70]; exact ⟨rfl, rfl, rfl, rfl, rfl, rfl, rfl⟩
theorem w70 {a_ k_} {y} (hp : laws_heldIntS a_ k_ = some y) : ∃ m, callo g70 0 70 [av .shr a_, av .shr k_] mem0 = some (Res.res y, m) := by
  refine zah (Tryz.f70.body.getD .skip) [.tmp 4] rfl rfl Tryz.func70 (by kernel_rfl) (by kernel_rfl) (by simp [Tryz.ntmps70]) rfl ?_
  unfold laws_heldIntS at hp
  simp [Tryz.f70]
  obtain ⟨r_17, h_18, hp⟩ := zaa hp
  obtain ⟨I_3, I_3_⟩ : ∃ I : Int × Int → St → Prop, I = (fun (s_1 : Int × Int) (σ : St) => σ.env 0 = .one (.l .shr a_.length (encL a_)) ∧ σ.env 1 = .one (.s (.int .i64 s_1.1)) ∧ σ.env 5 = .one (.s (.int .i64 s_1.2)) ∧ σ.mem = mem0) := ⟨_, rfl⟩
  obtain ⟨X_4, X_4_⟩ : ∃ X : ((Int) ⊕ (Int)) → Out → Prop, X = (fun (r_17 : (Int) ⊕ (Int)) (out : Out) => Sum.elim (fun r_17 => ∃ σ : St, out = .ret σ ∧ σ.env 4 = .one (.s (.int .i64 r_17)) ∧ σ.mem = mem0) (fun r_17 => ∃ σ : St, out = .exit 0 σ ∧ σ.env 1 = .one (.s (.int .i64 r_17)) ∧ σ.mem = mem0) r_17) := ⟨_, rfl⟩
  refine loopP ({ hd := [0, 1, 5], bx := [], ex := [1], rt := [4] }) I_3 X_4 h_18 (by exact rfl) ?_ ?_ ?_
  ·rw [I_3_]
   refine ⟨?_, ?_, ?_, ?_⟩ <;> simp [zab, zac]
  ·intro s_1 σ_5 a_2 hI hp
   rw [I_3_] at hI
   obtain ⟨q_6, q_7, q_8, q_9⟩ := hI
   try simp [q_6, q_7, q_8, q_9]
   rcases zad hp with ⟨h_10, hp⟩ | ⟨h_10, hp⟩
   ·try simp at h_10
    obtain ⟨e_11, h_12, hp⟩ := zaa hp
    have b_13 := at_lo h_12
    have b_14 := at_hi h_12
    try simp at b_13 b_14
    have c_15 := seg_at' h_12 0 1 (by decide) (ds := [.sc (.int .i64 e_11)]) rfl
    try simp at c_15
    try simp [q_6, q_7, q_8, q_9, h_10, b_13, b_14, c_15]
    rcases zad hp with ⟨h_16, hp⟩ | ⟨h_16, hp⟩
    ·try simp at h_16
     cases hp
     try simp [q_6, q_7, q_8, q_9, h_10, h_16]
     refine zao ?_
     rw [X_4_]
     refine ⟨_, rfl, ?_, ?_⟩ <;> simp [zab, zac, q_6, q_7, q_8, q_9, h_10, h_16]
    ·try simp at h_16
     cases hp
     try simp [q_6, q_7, q_8, q_9, h_10, h_16]
     refine zak ?_
     rw [I_3_]
     refine ⟨?_, ?_, ?_, ?_⟩ <;> simp [zab, zac, q_6, q_7, q_8, q_9, h_10, h_16]
   ·try simp at h_10
    cases hp
    try simp [q_6, q_7, q_8, q_9, h_10]
    refine zan ?_
    rw [X_4_]
    refine ⟨_, rfl, ?_, ?_⟩ <;> simp [zab, zac, q_6, q_7, q_8, q_9, h_10]
  ·intro out hX
   rw [X_4_] at hX
   rcases r_17 with r_17 | r_17
   ·simp only [Sum.elim_inl, Sum.elim_inr] at hX hp
    obtain ⟨σ_19, rfl, q_20, q_21⟩ := hX
    cases hp
    simp [Goal, FnEnd, q_20, q_21]
   ·simp only [Sum.elim_inl, Sum.elim_inr] at hX hp
    obtain ⟨σ_22, rfl, q_23, q_24⟩ := hX
    cases hp
    simp [Goal, FnEnd, q_23, q_24]
theorem pc70 : PC Tryz.prog 70 C70 := pc_of (g := g70) (zai [] rfl trivial) ⟨Tryz.f70, Tryz.func70, by kernel_rfl, by kernel_rfl⟩ fun x y h => w70 h

noncomputable def C62 : List AV → Option AV := specP (X := THeap × Int × Unit) fun x => laws_heldHeap x.1 x.2.1
theorem C62_eq {a_ k_} {y} (h : laws_heldHeap a_ k_ = some y) : C62 [av .shr a_, av .shr k_] = some (Res.res y) := zag (X := THeap × Int × Unit) (F := fun x => laws_heldHeap x.1 x.2.1) (x := (a_, k_, ())) h
noncomputable def g62 : Cfg := { P := Tryz.prog, take := [], keep := [], gho := [], ctx := [(70, C70)] }
@[simp] theorem g62_s : g62.P = Tryz.prog ∧ g62.take = [] ∧ g62.gho = [] ∧ g62.ro = [] ∧ g62.away = [] ∧ g62.give = [] ∧ g62.octx = [] ∧ lookN 70 g62.ctx = some C70 := by rw [g62]; exact ⟨rfl, rfl, rfl, rfl, rfl, rfl, rfl, rfl⟩
theorem w62 {a_ k_} {y} (hp : laws_heldHeap a_ k_ = some y) : ∃ m, callo g62 0 62 [av .shr a_, av .shr k_] mem0 = some (Res.res y, m) := by
  refine zah (Tryz.f62.body.getD .skip) [.tmp 4] rfl rfl Tryz.func62 (by kernel_rfl) (by kernel_rfl) (by simp [Tryz.ntmps62]) rfl ?_
  unfold laws_heldHeap at hp
  obtain ⟨y_1, h_2, hp⟩ := zaa hp
  have c_3 := C70_eq h_2
  simp at c_3
  simp [Tryz.f62, c_3]
  rcases zad hp with ⟨h_4, hp⟩ | ⟨h_4, hp⟩
  ·try simp at h_4
   cases hp
   simp [Goal, FnEnd, h_4]
  ·try simp at h_4
   obtain ⟨y_5, h_6, hp⟩ := zaa hp
   have c_7 := C70_eq h_6
   simp at c_7
   try simp [h_4, c_7]
   rcases zad hp with ⟨h_8, hp⟩ | ⟨h_8, hp⟩
   ·try simp at h_8
    cases hp
    simp [Goal, FnEnd, h_4, h_8]
   ·try simp at h_8
    cases hp
    simp [Goal, FnEnd, h_4, h_8]
theorem pc62 : PC Tryz.prog 62 C62 := pc_of (g := g62) (zai [(70, C70)] rfl ⟨pc70, trivial⟩) ⟨Tryz.f62, Tryz.func62, by kernel_rfl, by kernel_rfl⟩ fun x y h => w62 h

noncomputable def C23 : List AV → Option AV := specP (X := TState × Int × Unit) fun x => laws_heldState x.1 x.2.1
theorem C23_eq {a_ k_} {y} (h : laws_heldState a_ k_ = some y) : C23 [av .shr a_, av .shr k_] = some (Res.res y) := zag (X := TState × Int × Unit) (F := fun x => laws_heldState x.1 x.2.1) (x := (a_, k_, ())) h
noncomputable def g23 : Cfg := { P := Tryz.prog, take := [], keep := [], gho := [], ctx := [(62, C62)] }
@[simp] theorem g23_s : g23.P = Tryz.prog ∧ g23.take = [] ∧ g23.gho = [] ∧ g23.ro = [] ∧ g23.away = [] ∧ g23.give = [] ∧ g23.octx = [] ∧ lookN 62 g23.ctx = some C62 := by rw [g23]; exact ⟨rfl, rfl, rfl, rfl, rfl, rfl, rfl, rfl⟩
theorem w23 {a_ k_} {y} (hp : laws_heldState a_ k_ = some y) : ∃ m, callo g23 0 23 [av .shr a_, av .shr k_] mem0 = some (Res.res y, m) := by
  refine zah (Tryz.f23.body.getD .skip) [.tmp 4] rfl rfl Tryz.func23 (by kernel_rfl) (by kernel_rfl) (by simp [Tryz.ntmps23]) rfl ?_
  unfold laws_heldState at hp
  obtain ⟨y_1, h_2, hp⟩ := zaa hp
  have c_3 := C62_eq h_2
  simp at c_3
  simp [Tryz.f23, c_3]
  rcases zad hp with ⟨h_4, hp⟩ | ⟨h_4, hp⟩
  ·try simp at h_4
   cases hp
   simp [Goal, FnEnd, h_4]
  ·try simp at h_4
   cases hp
   simp [Goal, FnEnd, h_4]
theorem pc23 : PC Tryz.prog 23 C23 := pc_of (g := g23) (zai [(62, C62)] rfl ⟨pc62, trivial⟩) ⟨Tryz.f23, Tryz.func23, by kernel_rfl, by kernel_rfl⟩ fun x y h => w23 h

noncomputable def C3 : List AV → Option AV := specP (X := TProgram × THeap × (List Int) × Unit) fun x => laws_FnExactFollow x.1 x.2.1 x.2.2.1
theorem C3_eq {aP aH aEdges} {y} (h : laws_FnExactFollow aP aH aEdges = some y) : C3 [av .shr aP, av .shr aH, av .shr aEdges] = some (Res.res y) := zag (X := TProgram × THeap × (List Int) × Unit) (F := fun x => laws_FnExactFollow x.1 x.2.1 x.2.2.1) (x := (aP, aH, aEdges, ())) h
noncomputable def g3 : Cfg := { P := Tryz.prog, take := [(3, 36), (3, 53), (3, 128)], keep := [((60, 2), rowKp), ((61, 2), rowKp), ((21, 2), rowKp)], gho := [((3, 24), [.many (thawBox 1 11)]), ((3, 2000024), [.many (frzBox 1 11)]), ((3, 25), [.many (thawBox 1 12)]), ((3, 2000025), [.many (frzBox 1 12)]), ((3, 26), [.many (thawSlot 1 13)]), ((3, 2000026), [.many (frzSlot 1 13)]), ((3, 30), [.many (thawBox 1 14)]), ((3, 2000030), [.many (frzBox 1 14)])], ctx := [(8, C8), (9, C9), (10, C10), (11, C11), (12, C12), (13, C13), (14, C14), (15, C15), (16, C16), (17, C17), (18, C18), (23, C23), (110, C110)] }
@[simp] theorem g3_s : g3.P = Tryz.prog ∧ g3.take = [(3, 36), (3, 53), (3, 128)] ∧ g3.gho = [((3, 24), [.many (thawBox 1 11)]), ((3, 2000024), [.many (frzBox 1 11)]), ((3, 25), [.many (thawBox 1 12)]), ((3, 2000025), [.many (frzBox 1 12)]), ((3, 26), [.many (thawSlot 1 13)]), ((3, 2000026), [.many (frzSlot 1 13)]), ((3, 30), [.many (thawBox 1 14)]), ((3, 2000030), [.many (frzBox 1 14)])] ∧ g3.ro = [] ∧ g3.away = [] ∧ g3.give = [] ∧ g3.octx = [] ∧ lookN 8 g3.ctx = some C8 ∧ lookN 9 g3.ctx = some C9 ∧ lookN 10 g3.ctx = some C10 ∧ lookN 11 g3.ctx = some C11 ∧ lookN 12 g3.ctx = some C12 ∧ lookN 13 g3.ctx = some C13 ∧ lookN 14 g3.ctx = some C14 ∧ lookN 15 g3.ctx = some C15 ∧ lookN 16 g3.ctx = some C16 ∧ lookN 17 g3.ctx = some C17 ∧ lookN 18 g3.ctx = some C18 ∧ lookN 23 g3.ctx = some C23 ∧ lookN 110 g3.ctx = some C110 ∧ lookN 19 g3.ctx = none ∧ lookN 60 g3.ctx = none ∧ lookN 61 g3.ctx = none ∧ lookN 20 g3.ctx = none ∧ lookN 21 g3.ctx = none ∧ lookN 22 g3.ctx = none := by rw [g3]; exact ⟨rfl, rfl, rfl, rfl, rfl, rfl, rfl, rfl, rfl, rfl, rfl, rfl, rfl, rfl, rfl, rfl, rfl, rfl, rfl, rfl, rfl, rfl, rfl, rfl, rfl, rfl⟩
theorem w3 {aP aH aEdges} {y} (hp : laws_FnExactFollow aP aH aEdges = some y) : ∃ m, callo g3 0 3 [av .shr aP, av .shr aH, av .shr aEdges] mem0 = some (Res.res y, m) := by
  have G_19 : G19 g3 := ⟨rfl, by kernel_rfl, rfl, fun t => by simp, noAway (fun t => by simp) (by simp) (fun t => by simp), by simp [lookN], fun i => by simp [lookK], by simp [g3, lookK], by simp⟩
  have G_60 : G60 g3 := ⟨rfl, by kernel_rfl, rfl, fun t => by simp, noAway (fun t => by simp) (by simp) (fun t => by simp), by simp [lookN], fun i => by simp [lookK], by simp [g3, lookK], by simp⟩
  have G_61 : G61 g3 := ⟨rfl, by kernel_rfl, rfl, fun t => by simp, noAway (fun t => by simp) (by simp) (fun t => by simp), by simp [lookN], fun i => by simp [lookK], by simp [g3, lookK], by simp⟩
  have G_20 : G20 g3 := ⟨rfl, by kernel_rfl, rfl, fun t => by simp, noAway (fun t => by simp) (by simp) (fun t => by simp), by simp [lookN], fun i => by simp [lookK], by simp [g3, lookK], by simp⟩
  have G_21 : G21 g3 := ⟨rfl, by kernel_rfl, rfl, fun t => by simp, noAway (fun t => by simp) (by simp) (fun t => by simp), by simp [lookN], fun i => by simp [lookK], by simp [g3, lookK], by simp⟩
  have G_22 : G22 g3 := ⟨rfl, by kernel_rfl, rfl, fun t => by simp, noAway (fun t => by simp) (by simp) (fun t => by simp), by simp [lookN], fun i => by simp [lookK], by simp [g3, lookK], by simp⟩
  refine zah (Tryz.f3.body.getD .skip) [.tmp 6] rfl rfl Tryz.func3 (by kernel_rfl) (by kernel_rfl) (by simp [Tryz.ntmps3]) rfl ?_
  unfold laws_FnExactFollow at hp
  simp [Tryz.f3]
  rcases zad hp with ⟨h_1, hp⟩ | ⟨h_1, hp⟩
  ·try simp at h_1
   cases hp
   simp [Goal, FnEnd, h_1]
  ·try simp at h_1
   obtain ⟨y_2, h_3, hp⟩ := zaa hp
   have c_4 := C8_eq h_3
   simp at c_4
   try simp [h_1, c_4]
   rcases zad hp with ⟨h_5, hp⟩ | ⟨h_5, hp⟩
   ·try simp at h_5
    cases hp
    simp [Goal, FnEnd, h_1, h_5]
   ·try simp at h_5
    obtain ⟨y_6, h_7, hp⟩ := zaa hp
    have c_8 := C9_eq h_7
    simp at c_8
    try simp [h_1, h_5, c_8]
    rcases zad hp with ⟨h_9, hp⟩ | ⟨h_9, hp⟩
    ·try simp at h_9
     cases hp
     simp [Goal, FnEnd, h_1, h_5, h_9]
    ·try simp at h_9
     obtain ⟨y_10, h_11, hp⟩ := zaa hp
     have c_12 := C11_eq h_11
     simp at c_12
     obtain ⟨y_13, h_14, hp⟩ := zaa hp
     have c_15 := C12_eq h_14
     simp at c_15
     obtain ⟨y_16, h_17, hp⟩ := zaa hp
     have c_18 := C13_eq h_17
     simp at c_18
     obtain ⟨y_19, h_20, hp⟩ := zaa hp
     have c_21 := C10_eq h_20
     simp at c_21
     obtain ⟨y_22, h_23, hp⟩ := zaa hp
     cases Option.some.inj (h_11.symm.trans h_23)
     obtain ⟨y_24, h_25, hp⟩ := zaa hp
     cases Option.some.inj (h_14.symm.trans h_25)
     obtain ⟨y_26, h_27, hp⟩ := zaa hp
     cases Option.some.inj (h_17.symm.trans h_27)
     obtain ⟨y_28, h_29, hp⟩ := zaa hp
     have c_30 := C14_eq h_29
     simp at c_30
     obtain ⟨y_31, h_32, hp⟩ := zaa hp
     have c_33 := C15_eq h_32
     simp at c_33
     try simp [h_1, h_5, h_9, c_12, c_15, c_18, c_21, c_12, c_15, c_18, c_30, c_33]
     rcases zad hp with ⟨h_34, hp⟩ | ⟨h_34, hp⟩
     ·try simp at h_34
      try simp [h_1, h_5, h_9, h_34]
      rcases zad hp with ⟨h_35, hp⟩ | ⟨h_35, hp⟩
      ·try simp at h_35
       cases hp
       simp [Goal, FnEnd, h_1, h_5, h_9, h_34, h_35]
      ·try simp at h_35
       try simp [h_1, h_5, h_9, h_34, h_35]
       rcases zad hp with ⟨h_36, hp⟩ | ⟨h_36, hp⟩
       ·try simp at h_36
        cases hp
        simp [Goal, FnEnd, h_1, h_5, h_9, h_34, h_35, h_36]
       ·try simp at h_36
        obtain ⟨y_37, h_38, hp⟩ := zaa hp
        cases Option.some.inj (h_11.symm.trans h_38)
        obtain ⟨y_39, h_40, hp⟩ := zaa hp
        have c_41 := C16_eq h_40
        simp at c_41
        try simp [h_1, h_5, h_9, h_34, h_35, h_36, c_12, c_41]
        rcases zad hp with ⟨h_42, hp⟩ | ⟨h_42, hp⟩
        ·try simp at h_42
         obtain ⟨y_43, h_44, hp⟩ := zaa hp
         cases Option.some.inj (h_14.symm.trans h_44)
         obtain ⟨y_45, h_46, hp⟩ := zaa hp
         have c_47 := C17_eq h_46
         simp at c_47
         try simp [h_1, h_5, h_9, h_34, h_35, h_36, h_42, c_15, c_47]
         rcases zad hp with ⟨h_48, hp⟩ | ⟨h_48, hp⟩
         ·try simp at h_48
          obtain ⟨y_49, h_50, hp⟩ := zaa hp
          cases Option.some.inj (h_17.symm.trans h_50)
          obtain ⟨y_51, h_52, hp⟩ := zaa hp
          have c_53 := C18_eq h_52
          simp at c_53
          try simp [h_1, h_5, h_9, h_34, h_35, h_36, h_42, h_48, c_18, c_53]
          rcases zad hp with ⟨h_54, hp⟩ | ⟨h_54, hp⟩
          ·try simp at h_54
           obtain ⟨r_55, h_56, hp⟩ := zaa hp
           obtain ⟨lg_57, e_58⟩ := markO_eq h_56
           have mk_59 := mk19 G_19 G_60 G_61 y_10 1 lg_57
           rw [e_58] at mk_59
           try simp [h_1, h_5, h_9, h_34, h_35, h_36, h_42, h_48, h_54]
           refine goal_markB 11 11 17 90 91 92 19 mk_59 (show ti g3.P 38 = some _ from ti_38) rfl rfl (by decide) (by simp [h_1, h_5, h_9, h_34, h_35, h_36, h_42, h_48, h_54]) (by simp [h_1, h_5, h_9, h_34, h_35, h_36, h_42, h_48, h_54]) (by simp [h_1, h_5, h_9, h_34, h_35, h_36, h_42, h_48, h_54]) (WfE.wfE _) (WfE.wfE _) (fun key hkey => by simp [mem0, key_low hkey 1 3 (by decide), key_low hkey 1 4 (by decide), key_low hkey 1 8 (by decide), key_low hkey 1 11 (by decide), key_low hkey 1 12 (by decide), key_low hkey 1 14 (by decide), h_1, h_5, h_9, h_34, h_35, h_36, h_42, h_48, h_54]) (by simp) (by simp) (by simp) rfl (by decide) fun σ_60 qq_61 hq_62 hx_63 hk_64 he_65 hd_66 hm_67 => ?_
           obtain ⟨q_68, q_69, q_70, q_71, q_72, q_73, q_74, q_75, q_76, q_77, q_78, q_79, q_80, q_81, q_82, q_83, q_84, q_85⟩ : σ_60.env 2 = .one (.l .shr aEdges.length (encL aEdges)) ∧ σ_60.env 3 = .one (.ptr (1, 3) 0) ∧ σ_60.env 4 = .one (.ptr (1, 4) 0) ∧ σ_60.env 8 = .one (.ptr (1, 8) 0) ∧ σ_60.env 9 = .one (.s (.int .i64 y_19.2.1)) ∧ σ_60.env 10 = .one (.s (.int .i64 y_19.2.2)) ∧ σ_60.env 12 = .one (.ptr (1, 12) 0) ∧ σ_60.env 13 = .one (.l .own y_16.length (encL y_16)) ∧ σ_60.env 14 = .one (.ptr (1, 14) 0) ∧ σ_60.env 15 = .one (.s (.int .i64 y_28.2.1)) ∧ σ_60.env 16 = .one (.s (.int .i64 y_28.2.2)) ∧ σ_60.env 17 = .one (.s (.int .i64 r_55.2)) ∧ σ_60.mem (1, 3) = some [(.l .shr aP.vars.length (encL aP.vars)), (.s (.int .i64 aP.points)), (.l .shr aP.edges.length (encL aP.edges))] ∧ σ_60.mem (1, 4) = some [(.l .shr aH.vars.length (encL aH.vars)), (.l .shr aH.next.length (encL aH.next))] ∧ σ_60.mem (1, 8) = some [(.s (.int .i64 y_19.1.point)), (.l .own y_19.1.heap.vars.length (encL y_19.1.heap.vars)), (.l .own y_19.1.heap.next.length (encL y_19.1.heap.next))] ∧ σ_60.mem (1, 11) = some [(.l .own r_55.1.vars.length (encL r_55.1.vars)), (.s (.int .i64 r_55.1.points)), (.l .own r_55.1.edges.length (encL r_55.1.edges))] ∧ σ_60.mem (1, 12) = some [(.l .own y_13.vars.length (encL y_13.vars)), (.l .own y_13.next.length (encL y_13.next))] ∧ σ_60.mem (1, 14) = some [(.s (.int .i64 y_28.1.point)), (.l .own y_28.1.heap.vars.length (encL y_28.1.heap.vars)), (.l .own y_28.1.heap.next.length (encL y_28.1.heap.next))] := by refine ⟨(he_65 2 (by decide) (by decide) (by decide) (by decide)).trans ?_, (he_65 3 (by decide) (by decide) (by decide) (by decide)).trans ?_, (he_65 4 (by decide) (by decide) (by decide) (by decide)).trans ?_, (he_65 8 (by decide) (by decide) (by decide) (by decide)).trans ?_, (he_65 9 (by decide) (by decide) (by decide) (by decide)).trans ?_, (he_65 10 (by decide) (by decide) (by decide) (by decide)).trans ?_, (he_65 12 (by decide) (by decide) (by decide) (by decide)).trans ?_, (he_65 13 (by decide) (by decide) (by decide) (by decide)).trans ?_, (he_65 14 (by decide) (by decide) (by decide) (by decide)).trans ?_, (he_65 15 (by decide) (by decide) (by decide) (by decide)).trans ?_, (he_65 16 (by decide) (by decide) (by decide) (by decide)).trans ?_, hk_64, (hm_67 (1, 3) (by decide) (by decide) (by decide)).trans ?_, (hm_67 (1, 4) (by decide) (by decide) (by decide)).trans ?_, (hm_67 (1, 8) (by decide) (by decide) (by decide)).trans ?_, hx_63.trans (by simp), (hm_67 (1, 12) (by decide) (by decide) (by decide)).trans ?_, (hm_67 (1, 14) (by decide) (by decide) (by decide)).trans ?_⟩ <;> simp [h_1, h_5, h_9, h_34, h_35, h_36, h_42, h_48, h_54, hq_62 (1, 3) (by decide) (by decide), hq_62 (1, 4) (by decide) (by decide), hq_62 (1, 8) (by decide) (by decide), hq_62 (1, 11) (by decide) (by decide), hq_62 (1, 12) (by decide) (by decide), hq_62 (1, 14) (by decide) (by decide)]
           have hn_86 : NoBox [(1, 3), (1, 4), (1, 8), (1, 11), (1, 12), (1, 14)] σ_60.mem := by
             intro key hk
             by_cases hl : 1 < key.1 ∨ bigK ≤ key.2
             · exact hd_66 key hl
             · rw [hm_67 key (by rintro rfl; simp at hk) (by omega) (by omega)]
               simp at hk
               simp [mem0, hk, h_1, h_5, h_9, h_34, h_35, h_36, h_42, h_48, h_54]
           obtain ⟨r_87, h_88, hp⟩ := zaa hp
           obtain ⟨lg_89, e_90⟩ := markO_eq h_88
           have mk_91 := mk20 G_20 G_21 y_13 r_55.2 lg_89
           rw [e_90] at mk_91
           try simp [h_1, h_5, h_9, h_34, h_35, h_36, h_42, h_48, h_54, q_68, q_69, q_70, q_71, q_72, q_73, q_74, q_75, q_76, q_77, q_78, q_79, q_80, q_81, q_82, q_83, q_84, q_85]
           refine goal_markB 12 12 17 93 94 95 20 mk_91 (show ti g3.P 31 = some _ from ti_31) rfl rfl (by decide) (by simp [h_1, h_5, h_9, h_34, h_35, h_36, h_42, h_48, h_54, q_68, q_69, q_70, q_71, q_72, q_73, q_74, q_75, q_76, q_77, q_78, q_79, q_80, q_81, q_82, q_83, q_84, q_85]) (by simp [h_1, h_5, h_9, h_34, h_35, h_36, h_42, h_48, h_54, q_68, q_69, q_70, q_71, q_72, q_73, q_74, q_75, q_76, q_77, q_78, q_79, q_80, q_81, q_82, q_83, q_84, q_85]) (by simp [h_1, h_5, h_9, h_34, h_35, h_36, h_42, h_48, h_54, q_68, q_69, q_70, q_71, q_72, q_73, q_74, q_75, q_76, q_77, q_78, q_79, q_80, q_81, q_82, q_83, q_84, q_85]) (WfE.wfE _) (WfE.wfE _) (fun key hkey => by simp [mem0, key_low hkey 1 3 (by decide), key_low hkey 1 4 (by decide), key_low hkey 1 8 (by decide), key_low hkey 1 11 (by decide), key_low hkey 1 12 (by decide), key_low hkey 1 14 (by decide), h_1, h_5, h_9, h_34, h_35, h_36, h_42, h_48, h_54, q_68, q_69, q_70, q_71, q_72, q_73, q_74, q_75, q_76, q_77, q_78, q_79, q_80, q_81, q_82, q_83, q_84, q_85, hn_86 key (by simp [key_low hkey 1 3 (by decide), key_low hkey 1 4 (by decide), key_low hkey 1 8 (by decide), key_low hkey 1 11 (by decide), key_low hkey 1 12 (by decide), key_low hkey 1 14 (by decide)])]) (by simp) (by simp) (by simp) rfl (by decide) fun σ_92 qq_93 hq_94 hx_95 hk_96 he_97 hd_98 hm_99 => ?_
           obtain ⟨q_100, q_101, q_102, q_103, q_104, q_105, q_106, q_107, q_108, q_109, q_110, q_111, q_112, q_113, q_114, q_115, q_116⟩ : σ_92.env 2 = .one (.l .shr aEdges.length (encL aEdges)) ∧ σ_92.env 3 = .one (.ptr (1, 3) 0) ∧ σ_92.env 4 = .one (.ptr (1, 4) 0) ∧ σ_92.env 8 = .one (.ptr (1, 8) 0) ∧ σ_92.env 9 = .one (.s (.int .i64 y_19.2.1)) ∧ σ_92.env 10 = .one (.s (.int .i64 y_19.2.2)) ∧ σ_92.env 13 = .one (.l .own y_16.length (encL y_16)) ∧ σ_92.env 14 = .one (.ptr (1, 14) 0) ∧ σ_92.env 15 = .one (.s (.int .i64 y_28.2.1)) ∧ σ_92.env 16 = .one (.s (.int .i64 y_28.2.2)) ∧ σ_92.env 17 = .one (.s (.int .i64 r_87.2)) ∧ σ_92.mem (1, 3) = some [(.l .shr aP.vars.length (encL aP.vars)), (.s (.int .i64 aP.points)), (.l .shr aP.edges.length (encL aP.edges))] ∧ σ_92.mem (1, 4) = some [(.l .shr aH.vars.length (encL aH.vars)), (.l .shr aH.next.length (encL aH.next))] ∧ σ_92.mem (1, 8) = some [(.s (.int .i64 y_19.1.point)), (.l .own y_19.1.heap.vars.length (encL y_19.1.heap.vars)), (.l .own y_19.1.heap.next.length (encL y_19.1.heap.next))] ∧ σ_92.mem (1, 11) = some [(.l .own r_55.1.vars.length (encL r_55.1.vars)), (.s (.int .i64 r_55.1.points)), (.l .own r_55.1.edges.length (encL r_55.1.edges))] ∧ σ_92.mem (1, 12) = some [(.l .own r_87.1.vars.length (encL r_87.1.vars)), (.l .own r_87.1.next.length (encL r_87.1.next))] ∧ σ_92.mem (1, 14) = some [(.s (.int .i64 y_28.1.point)), (.l .own y_28.1.heap.vars.length (encL y_28.1.heap.vars)), (.l .own y_28.1.heap.next.length (encL y_28.1.heap.next))] := by refine ⟨(he_97 2 (by decide) (by decide) (by decide) (by decide)).trans ?_, (he_97 3 (by decide) (by decide) (by decide) (by decide)).trans ?_, (he_97 4 (by decide) (by decide) (by decide) (by decide)).trans ?_, (he_97 8 (by decide) (by decide) (by decide) (by decide)).trans ?_, (he_97 9 (by decide) (by decide) (by decide) (by decide)).trans ?_, (he_97 10 (by decide) (by decide) (by decide) (by decide)).trans ?_, (he_97 13 (by decide) (by decide) (by decide) (by decide)).trans ?_, (he_97 14 (by decide) (by decide) (by decide) (by decide)).trans ?_, (he_97 15 (by decide) (by decide) (by decide) (by decide)).trans ?_, (he_97 16 (by decide) (by decide) (by decide) (by decide)).trans ?_, hk_96, (hm_99 (1, 3) (by decide) (by decide) (by decide)).trans ?_, (hm_99 (1, 4) (by decide) (by decide) (by decide)).trans ?_, (hm_99 (1, 8) (by decide) (by decide) (by decide)).trans ?_, (hm_99 (1, 11) (by decide) (by decide) (by decide)).trans ?_, hx_95.trans (by simp), (hm_99 (1, 14) (by decide) (by decide) (by decide)).trans ?_⟩ <;> simp [h_1, h_5, h_9, h_34, h_35, h_36, h_42, h_48, h_54, q_68, q_69, q_70, q_71, q_72, q_73, q_74, q_75, q_76, q_77, q_78, q_79, q_80, q_81, q_82, q_83, q_84, q_85, hq_94 (1, 3) (by decide) (by decide), hq_94 (1, 4) (by decide) (by decide), hq_94 (1, 8) (by decide) (by decide), hq_94 (1, 11) (by decide) (by decide), hq_94 (1, 12) (by decide) (by decide), hq_94 (1, 14) (by decide) (by decide)]
           have hn_117 : NoBox [(1, 3), (1, 4), (1, 8), (1, 11), (1, 12), (1, 14)] σ_92.mem := by
             intro key hk
             by_cases hl : 1 < key.1 ∨ bigK ≤ key.2
             · exact hd_98 key hl
             · rw [hm_99 key (by rintro rfl; simp at hk) (by omega) (by omega)]
               simp at hk
               simp [mem0, hk, h_1, h_5, h_9, h_34, h_35, h_36, h_42, h_48, h_54, q_68, q_69, q_70, q_71, q_72, q_73, q_74, q_75, q_76, q_77, q_78, q_79, q_80, q_81, q_82, q_83, q_84, q_85, hn_86 key (by simp [hk])]
           obtain ⟨r_118, h_119, hp⟩ := zaa hp
           obtain ⟨lg_120, e_121⟩ := markO_eq h_119
           have mk_122 := mk21 G_21 y_16 r_87.2 lg_120
           rw [e_121] at mk_122
           try simp [h_1, h_5, h_9, h_34, h_35, h_36, h_42, h_48, h_54, q_100, q_101, q_102, q_103, q_104, q_105, q_106, q_107, q_108, q_109, q_110, q_111, q_112, q_113, q_114, q_115, q_116]
           refine goal_mark 13 17 96 97 98 21 mk_122 (by simp [h_1, h_5, h_9, h_34, h_35, h_36, h_42, h_48, h_54, q_100, q_101, q_102, q_103, q_104, q_105, q_106, q_107, q_108, q_109, q_110, q_111, q_112, q_113, q_114, q_115, q_116]) (fun _ => rfl) (by simp [h_1, h_5, h_9, h_34, h_35, h_36, h_42, h_48, h_54, q_100, q_101, q_102, q_103, q_104, q_105, q_106, q_107, q_108, q_109, q_110, q_111, q_112, q_113, q_114, q_115, q_116]) (WfE.wfE _) (WfE.wfE _) (fun key hkey => by simp [mem0, key_low hkey 1 3 (by decide), key_low hkey 1 4 (by decide), key_low hkey 1 8 (by decide), key_low hkey 1 11 (by decide), key_low hkey 1 12 (by decide), key_low hkey 1 14 (by decide), h_1, h_5, h_9, h_34, h_35, h_36, h_42, h_48, h_54, q_100, q_101, q_102, q_103, q_104, q_105, q_106, q_107, q_108, q_109, q_110, q_111, q_112, q_113, q_114, q_115, q_116, hn_117 key (by simp [key_low hkey 1 3 (by decide), key_low hkey 1 4 (by decide), key_low hkey 1 8 (by decide), key_low hkey 1 11 (by decide), key_low hkey 1 12 (by decide), key_low hkey 1 14 (by decide)])]) (by simp) (by simp) (by simp) rfl (by decide) fun σ_123 qq_124 hq_125 hx_126 hk_127 he_128 hd_129 hm_130 => ?_
           obtain ⟨q_131, q_132, q_133, q_134, q_135, q_136, q_137, q_138, q_139, q_140, q_141, q_142, q_143, q_144, q_145, q_146⟩ : σ_123.env 2 = .one (.l .shr aEdges.length (encL aEdges)) ∧ σ_123.env 3 = .one (.ptr (1, 3) 0) ∧ σ_123.env 4 = .one (.ptr (1, 4) 0) ∧ σ_123.env 8 = .one (.ptr (1, 8) 0) ∧ σ_123.env 9 = .one (.s (.int .i64 y_19.2.1)) ∧ σ_123.env 10 = .one (.s (.int .i64 y_19.2.2)) ∧ σ_123.env 14 = .one (.ptr (1, 14) 0) ∧ σ_123.env 15 = .one (.s (.int .i64 y_28.2.1)) ∧ σ_123.env 16 = .one (.s (.int .i64 y_28.2.2)) ∧ σ_123.env 17 = .one (.s (.int .i64 r_118.2)) ∧ σ_123.mem (1, 3) = some [(.l .shr aP.vars.length (encL aP.vars)), (.s (.int .i64 aP.points)), (.l .shr aP.edges.length (encL aP.edges))] ∧ σ_123.mem (1, 4) = some [(.l .shr aH.vars.length (encL aH.vars)), (.l .shr aH.next.length (encL aH.next))] ∧ σ_123.mem (1, 8) = some [(.s (.int .i64 y_19.1.point)), (.l .own y_19.1.heap.vars.length (encL y_19.1.heap.vars)), (.l .own y_19.1.heap.next.length (encL y_19.1.heap.next))] ∧ σ_123.mem (1, 11) = some [(.l .own r_55.1.vars.length (encL r_55.1.vars)), (.s (.int .i64 r_55.1.points)), (.l .own r_55.1.edges.length (encL r_55.1.edges))] ∧ σ_123.mem (1, 12) = some [(.l .own r_87.1.vars.length (encL r_87.1.vars)), (.l .own r_87.1.next.length (encL r_87.1.next))] ∧ σ_123.mem (1, 14) = some [(.s (.int .i64 y_28.1.point)), (.l .own y_28.1.heap.vars.length (encL y_28.1.heap.vars)), (.l .own y_28.1.heap.next.length (encL y_28.1.heap.next))] := by refine ⟨(he_128 2 (by decide) (by decide) (by decide) (by decide) (by decide)).trans ?_, (he_128 3 (by decide) (by decide) (by decide) (by decide) (by decide)).trans ?_, (he_128 4 (by decide) (by decide) (by decide) (by decide) (by decide)).trans ?_, (he_128 8 (by decide) (by decide) (by decide) (by decide) (by decide)).trans ?_, (he_128 9 (by decide) (by decide) (by decide) (by decide) (by decide)).trans ?_, (he_128 10 (by decide) (by decide) (by decide) (by decide) (by decide)).trans ?_, (he_128 14 (by decide) (by decide) (by decide) (by decide) (by decide)).trans ?_, (he_128 15 (by decide) (by decide) (by decide) (by decide) (by decide)).trans ?_, (he_128 16 (by decide) (by decide) (by decide) (by decide) (by decide)).trans ?_, hk_127, (hm_130 (1, 3) (by decide) (by decide)).trans ?_, (hm_130 (1, 4) (by decide) (by decide)).trans ?_, (hm_130 (1, 8) (by decide) (by decide)).trans ?_, (hm_130 (1, 11) (by decide) (by decide)).trans ?_, (hm_130 (1, 12) (by decide) (by decide)).trans ?_, (hm_130 (1, 14) (by decide) (by decide)).trans ?_⟩ <;> simp [h_1, h_5, h_9, h_34, h_35, h_36, h_42, h_48, h_54, q_100, q_101, q_102, q_103, q_104, q_105, q_106, q_107, q_108, q_109, q_110, q_111, q_112, q_113, q_114, q_115, q_116, hq_125 (1, 3) (by decide) (by decide), hq_125 (1, 4) (by decide) (by decide), hq_125 (1, 8) (by decide) (by decide), hq_125 (1, 11) (by decide) (by decide), hq_125 (1, 12) (by decide) (by decide), hq_125 (1, 14) (by decide) (by decide)]
           have hn_147 : NoBox [(1, 3), (1, 4), (1, 8), (1, 11), (1, 12), (1, 14)] σ_123.mem := by
             intro key hk
             by_cases hl : 1 < key.1 ∨ bigK ≤ key.2
             · exact hd_129 key hl
             · rw [hm_130 key (by omega) (by omega)]
               simp at hk
               simp [mem0, hk, h_1, h_5, h_9, h_34, h_35, h_36, h_42, h_48, h_54, q_100, q_101, q_102, q_103, q_104, q_105, q_106, q_107, q_108, q_109, q_110, q_111, q_112, q_113, q_114, q_115, q_116, hn_117 key (by simp [hk])]
           try simp [h_1, h_5, h_9, h_34, h_35, h_36, h_42, h_48, h_54, q_131, q_132, q_133, q_134, q_135, q_136, q_137, q_138, q_139, q_140, q_141, q_142, q_143, q_144, q_145, q_146]
           rcases zad hp with ⟨h_148, hp⟩ | ⟨h_148, hp⟩
           ·try simp at h_148
            cases hp
            simp [Goal, FnEnd, h_1, h_5, h_9, h_34, h_35, h_36, h_42, h_48, h_54, q_131, q_132, q_133, q_134, q_135, q_136, q_137, q_138, q_139, q_140, q_141, q_142, q_143, q_144, q_145, q_146, h_148]
           ·try simp at h_148
            obtain ⟨y_149, h_150, hp⟩ := zaa hp
            have c_151 := C15_eq h_150
            simp at c_151
            try simp [h_1, h_5, h_9, h_34, h_35, h_36, h_42, h_48, h_54, q_131, q_132, q_133, q_134, q_135, q_136, q_137, q_138, q_139, q_140, q_141, q_142, q_143, q_144, q_145, q_146, h_148, c_151]
            rcases zad hp with ⟨h_152, hp⟩ | ⟨h_152, hp⟩
            ·try simp at h_152
             obtain ⟨r_153, h_154, hp⟩ := zaa hp
             obtain ⟨lg_155, e_156⟩ := markO_eq h_154
             have mk_157 := mk22 G_22 G_20 G_21 y_28.1 1 lg_155
             rw [e_156] at mk_157
             try simp [h_1, h_5, h_9, h_34, h_35, h_36, h_42, h_48, h_54, q_131, q_132, q_133, q_134, q_135, q_136, q_137, q_138, q_139, q_140, q_141, q_142, q_143, q_144, q_145, q_146, h_148, h_152]
             refine goal_markB 14 14 18 117 118 119 22 mk_157 (show ti g3.P 33 = some _ from ti_33) rfl rfl (by decide) (by simp [h_1, h_5, h_9, h_34, h_35, h_36, h_42, h_48, h_54, q_131, q_132, q_133, q_134, q_135, q_136, q_137, q_138, q_139, q_140, q_141, q_142, q_143, q_144, q_145, q_146, h_148, h_152]) (by simp [h_1, h_5, h_9, h_34, h_35, h_36, h_42, h_48, h_54, q_131, q_132, q_133, q_134, q_135, q_136, q_137, q_138, q_139, q_140, q_141, q_142, q_143, q_144, q_145, q_146, h_148, h_152]) (by simp [h_1, h_5, h_9, h_34, h_35, h_36, h_42, h_48, h_54, q_131, q_132, q_133, q_134, q_135, q_136, q_137, q_138, q_139, q_140, q_141, q_142, q_143, q_144, q_145, q_146, h_148, h_152]) (WfE.wfE _) (WfE.wfE _) (fun key hkey => by simp [mem0, key_low hkey 1 3 (by decide), key_low hkey 1 4 (by decide), key_low hkey 1 8 (by decide), key_low hkey 1 11 (by decide), key_low hkey 1 12 (by decide), key_low hkey 1 14 (by decide), h_1, h_5, h_9, h_34, h_35, h_36, h_42, h_48, h_54, q_131, q_132, q_133, q_134, q_135, q_136, q_137, q_138, q_139, q_140, q_141, q_142, q_143, q_144, q_145, q_146, h_148, h_152, hn_147 key (by simp [key_low hkey 1 3 (by decide), key_low hkey 1 4 (by decide), key_low hkey 1 8 (by decide), key_low hkey 1 11 (by decide), key_low hkey 1 12 (by decide), key_low hkey 1 14 (by decide)])]) (by simp) (by simp) (by simp) rfl (by decide) fun σ_158 qq_159 hq_160 hx_161 hk_162 he_163 hd_164 hm_165 => ?_
             obtain ⟨q_166, q_167, q_168, q_169, q_170, q_171, q_172, q_173, q_174, q_175, q_176, q_177, q_178, q_179⟩ : σ_158.env 2 = .one (.l .shr aEdges.length (encL aEdges)) ∧ σ_158.env 3 = .one (.ptr (1, 3) 0) ∧ σ_158.env 4 = .one (.ptr (1, 4) 0) ∧ σ_158.env 8 = .one (.ptr (1, 8) 0) ∧ σ_158.env 9 = .one (.s (.int .i64 y_19.2.1)) ∧ σ_158.env 10 = .one (.s (.int .i64 y_19.2.2)) ∧ σ_158.env 14 = .one (.ptr (1, 14) 0) ∧ σ_158.env 18 = .one (.s (.int .i64 r_153.2)) ∧ σ_158.mem (1, 3) = some [(.l .shr aP.vars.length (encL aP.vars)), (.s (.int .i64 aP.points)), (.l .shr aP.edges.length (encL aP.edges))] ∧ σ_158.mem (1, 4) = some [(.l .shr aH.vars.length (encL aH.vars)), (.l .shr aH.next.length (encL aH.next))] ∧ σ_158.mem (1, 8) = some [(.s (.int .i64 y_19.1.point)), (.l .own y_19.1.heap.vars.length (encL y_19.1.heap.vars)), (.l .own y_19.1.heap.next.length (encL y_19.1.heap.next))] ∧ σ_158.mem (1, 11) = some [(.l .own r_55.1.vars.length (encL r_55.1.vars)), (.s (.int .i64 r_55.1.points)), (.l .own r_55.1.edges.length (encL r_55.1.edges))] ∧ σ_158.mem (1, 12) = some [(.l .own r_87.1.vars.length (encL r_87.1.vars)), (.l .own r_87.1.next.length (encL r_87.1.next))] ∧ σ_158.mem (1, 14) = some [(.s (.int .i64 r_153.1.point)), (.l .own r_153.1.heap.vars.length (encL r_153.1.heap.vars)), (.l .own r_153.1.heap.next.length (encL r_153.1.heap.next))] := by refine ⟨(he_163 2 (by decide) (by decide) (by decide) (by decide)).trans ?_, (he_163 3 (by decide) (by decide) (by decide) (by decide)).trans ?_, (he_163 4 (by decide) (by decide) (by decide) (by decide)).trans ?_, (he_163 8 (by decide) (by decide) (by decide) (by decide)).trans ?_, (he_163 9 (by decide) (by decide) (by decide) (by decide)).trans ?_, (he_163 10 (by decide) (by decide) (by decide) (by decide)).trans ?_, (he_163 14 (by decide) (by decide) (by decide) (by decide)).trans ?_, hk_162, (hm_165 (1, 3) (by decide) (by decide) (by decide)).trans ?_, (hm_165 (1, 4) (by decide) (by decide) (by decide)).trans ?_, (hm_165 (1, 8) (by decide) (by decide) (by decide)).trans ?_, (hm_165 (1, 11) (by decide) (by decide) (by decide)).trans ?_, (hm_165 (1, 12) (by decide) (by decide) (by decide)).trans ?_, hx_161.trans (by simp)⟩ <;> simp [h_1, h_5, h_9, h_34, h_35, h_36, h_42, h_48, h_54, q_131, q_132, q_133, q_134, q_135, q_136, q_137, q_138, q_139, q_140, q_141, q_142, q_143, q_144, q_145, q_146, h_148, h_152, hq_160 (1, 3) (by decide) (by decide), hq_160 (1, 4) (by decide) (by decide), hq_160 (1, 8) (by decide) (by decide), hq_160 (1, 11) (by decide) (by decide), hq_160 (1, 12) (by decide) (by decide), hq_160 (1, 14) (by decide) (by decide)]
             have hn_180 : NoBox [(1, 3), (1, 4), (1, 8), (1, 11), (1, 12), (1, 14)] σ_158.mem := by
               intro key hk
               by_cases hl : 1 < key.1 ∨ bigK ≤ key.2
               · exact hd_164 key hl
               · rw [hm_165 key (by rintro rfl; simp at hk) (by omega) (by omega)]
                 simp at hk
                 simp [mem0, hk, h_1, h_5, h_9, h_34, h_35, h_36, h_42, h_48, h_54, q_131, q_132, q_133, q_134, q_135, q_136, q_137, q_138, q_139, q_140, q_141, q_142, q_143, q_144, q_145, q_146, h_148, h_152, hn_147 key (by simp [hk])]
             obtain ⟨y_181, h_182, hp⟩ := zaa hp
             have c_183 := C23_eq h_182
             simp at c_183
             try simp [h_1, h_5, h_9, h_34, h_35, h_36, h_42, h_48, h_54, h_148, h_152, q_166, q_167, q_168, q_169, q_170, q_171, q_172, q_173, q_174, q_175, q_176, q_177, q_178, q_179, c_183]
             rcases zad hp with ⟨h_184, hp⟩ | ⟨h_184, hp⟩
             ·try simp at h_184
              cases hp
              simp [Goal, FnEnd, h_1, h_5, h_9, h_34, h_35, h_36, h_42, h_48, h_54, h_148, h_152, q_166, q_167, q_168, q_169, q_170, q_171, q_172, q_173, q_174, q_175, q_176, q_177, q_178, q_179, h_184]
             ·try simp at h_184
              try simp [h_1, h_5, h_9, h_34, h_35, h_36, h_42, h_48, h_54, h_148, h_152, q_166, q_167, q_168, q_169, q_170, q_171, q_172, q_173, q_174, q_175, q_176, q_177, q_178, q_179, h_184]
              rcases zad hp with ⟨h_185, hp⟩ | ⟨h_185, hp⟩
              ·try simp at h_185
               cases hp
               simp [Goal, FnEnd, h_1, h_5, h_9, h_34, h_35, h_36, h_42, h_48, h_54, h_148, h_152, q_166, q_167, q_168, q_169, q_170, q_171, q_172, q_173, q_174, q_175, q_176, q_177, q_178, q_179, h_184, h_185]
              ·try simp at h_185
               obtain ⟨y_186, h_187, hp⟩ := zaa hp
               have c_188 := C11_eq h_187
               simp at c_188
               obtain ⟨y_189, h_190, hp⟩ := zaa hp
               have c_191 := C12_eq h_190
               simp at c_191
               obtain ⟨y_192, h_193, hp⟩ := zaa hp
               have c_194 := C13_eq h_193
               simp at c_194
               obtain ⟨y_195, h_196, hp⟩ := zaa hp
               have c_197 := C14_eq h_196
               simp at c_197
               have n_198 := hn_180 (1, 20) (by simp)
               obtain ⟨y_199, h_200, hp⟩ := zaa hp
               have c_201 := C15_eq h_200
               simp at c_201
               try simp [h_1, h_5, h_9, h_34, h_35, h_36, h_42, h_48, h_54, h_148, h_152, q_166, q_167, q_168, q_169, q_170, q_171, q_172, q_173, q_174, q_175, q_176, q_177, q_178, q_179, h_184, h_185, c_188, c_191, c_194, c_197, n_198, c_201]
               rcases zad hp with ⟨h_202, hp⟩ | ⟨h_202, hp⟩
               ·try simp at h_202
                try simp [h_1, h_5, h_9, h_34, h_35, h_36, h_42, h_48, h_54, h_148, h_152, q_166, q_167, q_168, q_169, q_170, q_171, q_172, q_173, q_174, q_175, q_176, q_177, q_178, q_179, h_184, h_185, h_202]
                rcases zad hp with ⟨h_203, hp⟩ | ⟨h_203, hp⟩
                ·try simp at h_203
                 cases hp
                 simp [Goal, FnEnd, h_1, h_5, h_9, h_34, h_35, h_36, h_42, h_48, h_54, h_148, h_152, q_166, q_167, q_168, q_169, q_170, q_171, q_172, q_173, q_174, q_175, q_176, q_177, q_178, q_179, h_184, h_185, h_202, h_203]
                ·try simp at h_203
                 try simp [h_1, h_5, h_9, h_34, h_35, h_36, h_42, h_48, h_54, h_148, h_152, q_166, q_167, q_168, q_169, q_170, q_171, q_172, q_173, q_174, q_175, q_176, q_177, q_178, q_179, h_184, h_185, h_202, h_203]
                 rcases zad hp with ⟨h_204, hp⟩ | ⟨h_204, hp⟩
                 ·try simp at h_204
                  cases hp
                  simp [Goal, FnEnd, h_1, h_5, h_9, h_34, h_35, h_36, h_42, h_48, h_54, h_148, h_152, q_166, q_167, q_168, q_169, q_170, q_171, q_172, q_173, q_174, q_175, q_176, q_177, q_178, q_179, h_184, h_185, h_202, h_203, h_204]
                 ·try simp at h_204
                  obtain ⟨y_205, h_206, hp⟩ := zaa hp
                  cases Option.some.inj (h_182.symm.trans h_206)
                  cases hp
                  simp [Goal, FnEnd, h_1, h_5, h_9, h_34, h_35, h_36, h_42, h_48, h_54, h_148, h_152, q_166, q_167, q_168, q_169, q_170, q_171, q_172, q_173, q_174, q_175, q_176, q_177, q_178, q_179, h_184, h_185, h_202, h_203, h_204, c_183]
               ·try simp at h_202
                cases hp
                simp [Goal, FnEnd, h_1, h_5, h_9, h_34, h_35, h_36, h_42, h_48, h_54, h_148, h_152, q_166, q_167, q_168, q_169, q_170, q_171, q_172, q_173, q_174, q_175, q_176, q_177, q_178, q_179, h_184, h_185, h_202]
            ·try simp at h_152
             cases hp
             simp [Goal, FnEnd, h_1, h_5, h_9, h_34, h_35, h_36, h_42, h_48, h_54, q_131, q_132, q_133, q_134, q_135, q_136, q_137, q_138, q_139, q_140, q_141, q_142, q_143, q_144, q_145, q_146, h_148, h_152]
          ·try simp at h_54
           cases hp
           simp [Goal, FnEnd, h_1, h_5, h_9, h_34, h_35, h_36, h_42, h_48, h_54]
         ·try simp at h_48
          cases hp
          simp [Goal, FnEnd, h_1, h_5, h_9, h_34, h_35, h_36, h_42, h_48]
        ·try simp at h_42
         cases hp
         simp [Goal, FnEnd, h_1, h_5, h_9, h_34, h_35, h_36, h_42]
     ·try simp at h_34
      cases hp
      simp [Goal, FnEnd, h_1, h_5, h_9, h_34]
theorem pc3 : PC Tryz.prog 3 C3 := pc_of (g := g3) (zai [(8, C8), (9, C9), (10, C10), (11, C11), (12, C12), (13, C13), (14, C14), (15, C15), (16, C16), (17, C17), (18, C18), (23, C23), (110, C110)] rfl ⟨pc8, pc9, pc10, pc11, pc12, pc13, pc14, pc15, pc16, pc17, pc18, pc23, pc110, trivial⟩) ⟨Tryz.f3, Tryz.func3, by kernel_rfl, by kernel_rfl⟩ fun x y h => w3 h
end Go.Proofs

