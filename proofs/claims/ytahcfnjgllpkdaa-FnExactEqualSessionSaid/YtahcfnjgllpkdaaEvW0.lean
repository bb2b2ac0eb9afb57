import Derived.Test.YtahcfnjgllpkdaaEvSeat
set_option linter.unusedSimpArgs false
set_option linter.unusedVariables false
set_option linter.unnecessarySimpa false
namespace Go.Proofs
open Go.Ev
noncomputable def C110 : List AV → Option AV := specP (X := (List ByteArray) × Int × Unit) fun x => laws_szStringS x.1 x.2.1
theorem C110_eq {a_ left} {y} (h : laws_szStringS a_ left = some y) : C110 [av .shr a_, av .shr left] = some (Res.res y) := specP_eq (X := (List ByteArray) × Int × Unit) (F := fun x => laws_szStringS x.1 x.2.1) (x := (a_, left, ())) h
noncomputable def g110 : Cfg := { P := Try.prog, take := [], keep := [((110, 5), { hd := [0, 1, 5], bx := [], ex := [1], rt := [4] })], gho := [], ctx := [] }
@[simp] theorem g110_P : g110.P = Try.prog := rfl
@[simp] theorem g110_t : g110.take = [] := rfl
@[simp] theorem g110_g : g110.gho = [] := rfl
set_option maxRecDepth 100000 in
theorem w110 {a_ left} {y} (hp : laws_szStringS a_ left = some y) : ∃ m, callo g110 0 110 [av .shr a_, av .shr left] mem0 = some (Res.res y, m) := by
  refine start_fn (Try.f110.body.getD .skip) [.tmp 4] rfl rfl Try.func110 (by kernel_rfl) (by kernel_rfl) (by simp [Try.ntmps110]) rfl ?_
  unfold laws_szStringS at hp
  simp [Try.f110]
  rcases cond_cases hp with ⟨h_1, hp⟩ | ⟨h_1, hp⟩
  · try simp at h_1
    cases hp
    simp [Goal, FnEnd, h_1]
  · try simp at h_1
    try simp [h_1]
    obtain ⟨r_18, h_19, hp⟩ := bind_some hp
    obtain ⟨I_4, I_4_⟩ : ∃ I : Int × Int → St → Prop, I = (fun (s_2 : Int × Int) (σ : St) => σ.env 0 = .one (.l .shr a_.length (encL a_)) ∧ σ.env 1 = .one (.s (.int .i64 s_2.1)) ∧ σ.env 5 = .one (.s (.int .i64 s_2.2)) ∧ σ.mem = mem0) := ⟨_, rfl⟩
    obtain ⟨X_5, X_5_⟩ : ∃ X : ((Int) ⊕ (Int)) → Out → Prop, X = (fun (r_18 : (Int) ⊕ (Int)) (out : Out) => Sum.elim (fun r_18 => ∃ σ : St, out = .ret σ ∧ σ.env 4 = .one (.s (.int .i64 r_18)) ∧ σ.mem = mem0) (fun r_18 => ∃ σ : St, out = .exit 0 σ ∧ σ.env 1 = .one (.s (.int .i64 r_18)) ∧ σ.mem = mem0) r_18) := ⟨_, rfl⟩
    refine loopP ({ hd := [0, 1, 5], bx := [], ex := [1], rt := [4] }) I_4 X_5 h_19 (by exact rfl) ?_ ?_ ?_
    · rw [I_4_]
      exact ⟨by simp [restrict_env, h_1], by simp [restrict_env, h_1], by simp [restrict_env, h_1], by simp [restrict_mem, h_1]⟩
    · intro s_2 σ_6 a_3 hI hp
      rw [I_4_] at hI
      obtain ⟨q_7, q_8, q_9, q_10⟩ := hI
      try simp [h_1, q_7, q_8, q_9, q_10]
      rcases cond_cases hp with ⟨h_11, hp⟩ | ⟨h_11, hp⟩
      · try simp at h_11
        obtain ⟨e_12, h_13, hp⟩ := bind_some hp
        have b_14 := at_lo h_13
        have b_15 := at_hi h_13
        try simp at b_14
        try simp at b_15
        have c_16 := seg_at' h_13 0 1 (by decide) (ds := [.sc (.string e_12)]) rfl
        try simp at c_16
        try simp [h_1, q_7, q_8, q_9, q_10, h_11, b_14, b_15, c_16]
        rcases cond_cases hp with ⟨h_17, hp⟩ | ⟨h_17, hp⟩
        · try simp at h_17
          cases hp
          try simp [h_1, q_7, q_8, q_9, q_10, h_11, h_17]
          refine goal_outR ?_
          rw [X_5_]
          exact ⟨_, rfl, by simp [restrict_env, h_1, q_7, q_8, q_9, q_10, h_11, h_17], by simp [restrict_mem, h_1, q_7, q_8, q_9, q_10, h_11, h_17]⟩
        · try simp at h_17
          cases hp
          try simp [h_1, q_7, q_8, q_9, q_10, h_11, h_17]
          refine goal_next ?_
          rw [I_4_]
          exact ⟨by simp [restrict_env, h_1, q_7, q_8, q_9, q_10, h_11, h_17], by simp [restrict_env, h_1, q_7, q_8, q_9, q_10, h_11, h_17], by simp [restrict_env, h_1, q_7, q_8, q_9, q_10, h_11, h_17], by simp [restrict_mem, h_1, q_7, q_8, q_9, q_10, h_11, h_17]⟩
      · try simp at h_11
        cases hp
        try simp [h_1, q_7, q_8, q_9, q_10, h_11]
        refine goal_outX ?_
        rw [X_5_]
        exact ⟨_, rfl, by simp [restrict_env, h_1, q_7, q_8, q_9, q_10, h_11], by simp [restrict_mem, h_1, q_7, q_8, q_9, q_10, h_11]⟩
    · intro out hX
      rw [X_5_] at hX
      rcases r_18 with r_18 | r_18
      · simp only [Sum.elim_inl, Sum.elim_inr] at hX hp
        obtain ⟨σ_20, rfl, q_21, q_22⟩ := hX
        cases hp
        simp [Goal, FnEnd, h_1, q_21, q_22]
      · simp only [Sum.elim_inl, Sum.elim_inr] at hX hp
        obtain ⟨σ_23, rfl, q_24, q_25⟩ := hX
        cases hp
        simp [Goal, FnEnd, h_1, q_24, q_25]
theorem pc110 : PC Try.prog 110 C110 := pc_of (g := g110) (fun f F h => by cases h) ⟨Try.f110, Try.func110, by kernel_rfl, by kernel_rfl⟩ fun x y h => w110 h

noncomputable def C172 : List AV → Option AV := specP (X := TStmt × Int × Unit) fun x => laws_szStmt x.1 x.2.1
theorem C172_eq {a_ left} {y} (h : laws_szStmt a_ left = some y) : C172 [av .shr a_, av .shr left] = some (Res.res y) := specP_eq (X := TStmt × Int × Unit) (F := fun x => laws_szStmt x.1 x.2.1) (x := (a_, left, ())) h
noncomputable def g172 : Cfg := { P := Try.prog, take := [], keep := [], gho := [], ctx := [] }
@[simp] theorem g172_P : g172.P = Try.prog := rfl
@[simp] theorem g172_t : g172.take = [] := rfl
@[simp] theorem g172_g : g172.gho = [] := rfl
set_option maxRecDepth 100000 in
theorem w172 {a_ left} {y} (hp : laws_szStmt a_ left = some y) : ∃ m, callo g172 0 172 [av .shr a_, av .shr left] mem0 = some (Res.res y, m) := by
  refine start_fn (Try.f172.body.getD .skip) [.tmp 4] rfl rfl Try.func172 (by kernel_rfl) (by kernel_rfl) (by simp [Try.ntmps172]) rfl ?_
  unfold laws_szStmt at hp
  simp [Try.f172]
  rcases cond_cases hp with ⟨h_1, hp⟩ | ⟨h_1, hp⟩
  · try simp at h_1
    cases hp
    simp [Goal, FnEnd, h_1]
  · try simp at h_1
    try simp [h_1]
    rcases cond_cases hp with ⟨h_2, hp⟩ | ⟨h_2, hp⟩
    · try simp at h_2
      cases hp
      simp [Goal, FnEnd, h_1, h_2]
    · try simp at h_2
      cases hp
      simp [Goal, FnEnd, h_1, h_2]
theorem pc172 : PC Try.prog 172 C172 := pc_of (g := g172) (fun f F h => by cases h) ⟨Try.f172, Try.func172, by kernel_rfl, by kernel_rfl⟩ fun x y h => w172 h

noncomputable def C157 : List AV → Option AV := specP (X := TEdge × Int × Unit) fun x => laws_szEdge x.1 x.2.1
theorem C157_eq {a_ left} {y} (h : laws_szEdge a_ left = some y) : C157 [av .shr a_, av .shr left] = some (Res.res y) := specP_eq (X := TEdge × Int × Unit) (F := fun x => laws_szEdge x.1 x.2.1) (x := (a_, left, ())) h
noncomputable def g157 : Cfg := { P := Try.prog, take := [], keep := [], gho := [], ctx := [(172, C172)] }
@[simp] theorem g157_P : g157.P = Try.prog := rfl
@[simp] theorem g157_t : g157.take = [] := rfl
@[simp] theorem g157_g : g157.gho = [] := rfl
@[simp] theorem g157_172 : lookN 172 g157.ctx = some C172 := rfl
set_option maxRecDepth 100000 in
theorem w157 {a_ left} {y} (hp : laws_szEdge a_ left = some y) : ∃ m, callo g157 0 157 [av .shr a_, av .shr left] mem0 = some (Res.res y, m) := by
  refine start_fn (Try.f157.body.getD .skip) [.tmp 4] rfl rfl Try.func157 (by kernel_rfl) (by kernel_rfl) (by simp [Try.ntmps157]) rfl ?_
  unfold laws_szEdge at hp
  obtain ⟨y_1, h_2, hp⟩ := bind_some hp
  have c_3 := C172_eq h_2
  simp at c_3
  simp [Try.f157, c_3]
  rcases cond_cases hp with ⟨h_4, hp⟩ | ⟨h_4, hp⟩
  · try simp at h_4
    cases hp
    simp [Goal, FnEnd, h_4]
  · try simp at h_4
    cases hp
    simp [Goal, FnEnd, h_4]
theorem pc157 : PC Try.prog 157 C157 := pc_of (g := g157) (ctxOK_of [(172, C172)] rfl ⟨pc172, trivial⟩) ⟨Try.f157, Try.func157, by kernel_rfl, by kernel_rfl⟩ fun x y h => w157 h

noncomputable def C111 : List AV → Option AV := specP (X := (List TEdge) × Int × Unit) fun x => laws_szEdgeS x.1 x.2.1
theorem C111_eq {a_ left} {y} (h : laws_szEdgeS a_ left = some y) : C111 [av .shr a_, av .shr left] = some (Res.res y) := specP_eq (X := (List TEdge) × Int × Unit) (F := fun x => laws_szEdgeS x.1 x.2.1) (x := (a_, left, ())) h
noncomputable def g111 : Cfg := { P := Try.prog, take := [], keep := [((111, 5), { hd := [0, 1, 5], bx := [], ex := [1], rt := [4] })], gho := [], ctx := [(157, C157)] }
@[simp] theorem g111_P : g111.P = Try.prog := rfl
@[simp] theorem g111_t : g111.take = [] := rfl
@[simp] theorem g111_g : g111.gho = [] := rfl
@[simp] theorem g111_157 : lookN 157 g111.ctx = some C157 := rfl
set_option maxRecDepth 100000 in
theorem w111 {a_ left} {y} (hp : laws_szEdgeS a_ left = some y) : ∃ m, callo g111 0 111 [av .shr a_, av .shr left] mem0 = some (Res.res y, m) := by
  refine start_fn (Try.f111.body.getD .skip) [.tmp 4] rfl rfl Try.func111 (by kernel_rfl) (by kernel_rfl) (by simp [Try.ntmps111]) rfl ?_
  unfold laws_szEdgeS at hp
  simp [Try.f111]
  rcases cond_cases hp with ⟨h_1, hp⟩ | ⟨h_1, hp⟩
  · try simp at h_1
    cases hp
    simp [Goal, FnEnd, h_1]
  · try simp at h_1
    try simp [h_1]
    obtain ⟨r_21, h_22, hp⟩ := bind_some hp
    obtain ⟨I_4, I_4_⟩ : ∃ I : Int × Int → St → Prop, I = (fun (s_2 : Int × Int) (σ : St) => σ.env 0 = .one (.l .shr a_.length (encL a_)) ∧ σ.env 1 = .one (.s (.int .i64 s_2.1)) ∧ σ.env 5 = .one (.s (.int .i64 s_2.2)) ∧ σ.mem = mem0) := ⟨_, rfl⟩
    obtain ⟨X_5, X_5_⟩ : ∃ X : ((Int) ⊕ (Int)) → Out → Prop, X = (fun (r_21 : (Int) ⊕ (Int)) (out : Out) => Sum.elim (fun r_21 => ∃ σ : St, out = .ret σ ∧ σ.env 4 = .one (.s (.int .i64 r_21)) ∧ σ.mem = mem0) (fun r_21 => ∃ σ : St, out = .exit 0 σ ∧ σ.env 1 = .one (.s (.int .i64 r_21)) ∧ σ.mem = mem0) r_21) := ⟨_, rfl⟩
    refine loopP ({ hd := [0, 1, 5], bx := [], ex := [1], rt := [4] }) I_4 X_5 h_22 (by exact rfl) ?_ ?_ ?_
    · rw [I_4_]
      exact ⟨by simp [restrict_env, h_1], by simp [restrict_env, h_1], by simp [restrict_env, h_1], by simp [restrict_mem, h_1]⟩
    · intro s_2 σ_6 a_3 hI hp
      rw [I_4_] at hI
      obtain ⟨q_7, q_8, q_9, q_10⟩ := hI
      try simp [h_1, q_7, q_8, q_9, q_10]
      rcases cond_cases hp with ⟨h_11, hp⟩ | ⟨h_11, hp⟩
      · try simp at h_11
        obtain ⟨e_12, h_13, hp⟩ := bind_some hp
        have b_14 := at_lo h_13
        have b_15 := at_hi h_13
        try simp at b_14
        try simp at b_15
        have c_16 := seg_at' h_13 0 5 (by decide) (ds := [.sc (.int .i64 e_12.from_), .sc (.int .i64 e_12.to_), .sc (.int .i64 e_12.stmt.kind), .sc (.string e_12.stmt.a), .sc (.string e_12.stmt.b)]) rfl
        try simp at c_16
        obtain ⟨y_17, h_18, hp⟩ := bind_some hp
        have c_19 := C157_eq h_18
        simp at c_19
        try simp [h_1, q_7, q_8, q_9, q_10, h_11, b_14, b_15, c_16, c_19]
        rcases cond_cases hp with ⟨h_20, hp⟩ | ⟨h_20, hp⟩
        · try simp at h_20
          cases hp
          try simp [h_1, q_7, q_8, q_9, q_10, h_11, h_20]
          refine goal_outR ?_
          rw [X_5_]
          exact ⟨_, rfl, by simp [restrict_env, h_1, q_7, q_8, q_9, q_10, h_11, h_20], by simp [restrict_mem, h_1, q_7, q_8, q_9, q_10, h_11, h_20]⟩
        · try simp at h_20
          cases hp
          try simp [h_1, q_7, q_8, q_9, q_10, h_11, h_20]
          refine goal_next ?_
          rw [I_4_]
          exact ⟨by simp [restrict_env, h_1, q_7, q_8, q_9, q_10, h_11, h_20], by simp [restrict_env, h_1, q_7, q_8, q_9, q_10, h_11, h_20], by simp [restrict_env, h_1, q_7, q_8, q_9, q_10, h_11, h_20], by simp [restrict_mem, h_1, q_7, q_8, q_9, q_10, h_11, h_20]⟩
      · try simp at h_11
        cases hp
        try simp [h_1, q_7, q_8, q_9, q_10, h_11]
        refine goal_outX ?_
        rw [X_5_]
        exact ⟨_, rfl, by simp [restrict_env, h_1, q_7, q_8, q_9, q_10, h_11], by simp [restrict_mem, h_1, q_7, q_8, q_9, q_10, h_11]⟩
    · intro out hX
      rw [X_5_] at hX
      rcases r_21 with r_21 | r_21
      · simp only [Sum.elim_inl, Sum.elim_inr] at hX hp
        obtain ⟨σ_23, rfl, q_24, q_25⟩ := hX
        cases hp
        simp [Goal, FnEnd, h_1, q_24, q_25]
      · simp only [Sum.elim_inl, Sum.elim_inr] at hX hp
        obtain ⟨σ_26, rfl, q_27, q_28⟩ := hX
        cases hp
        simp [Goal, FnEnd, h_1, q_27, q_28]
theorem pc111 : PC Try.prog 111 C111 := pc_of (g := g111) (ctxOK_of [(157, C157)] rfl ⟨pc157, trivial⟩) ⟨Try.f111, Try.func111, by kernel_rfl, by kernel_rfl⟩ fun x y h => w111 h

noncomputable def C56 : List AV → Option AV := specP (X := TProgram × Int × Unit) fun x => laws_szProgram x.1 x.2.1
theorem C56_eq {a_ left} {y} (h : laws_szProgram a_ left = some y) : C56 [av .shr a_, av .shr left] = some (Res.res y) := specP_eq (X := TProgram × Int × Unit) (F := fun x => laws_szProgram x.1 x.2.1) (x := (a_, left, ())) h
noncomputable def g56 : Cfg := { P := Try.prog, take := [], keep := [], gho := [], ctx := [(110, C110), (111, C111)] }
@[simp] theorem g56_P : g56.P = Try.prog := rfl
@[simp] theorem g56_t : g56.take = [] := rfl
@[simp] theorem g56_g : g56.gho = [] := rfl
@[simp] theorem g56_110 : lookN 110 g56.ctx = some C110 := rfl
@[simp] theorem g56_111 : lookN 111 g56.ctx = some C111 := rfl
set_option maxRecDepth 100000 in
theorem w56 {a_ left} {y} (hp : laws_szProgram a_ left = some y) : ∃ m, callo g56 0 56 [av .shr a_, av .shr left] mem0 = some (Res.res y, m) := by
  refine start_fn (Try.f56.body.getD .skip) [.tmp 4] rfl rfl Try.func56 (by kernel_rfl) (by kernel_rfl) (by simp [Try.ntmps56]) rfl ?_
  unfold laws_szProgram at hp
  obtain ⟨y_1, h_2, hp⟩ := bind_some hp
  have c_3 := C110_eq h_2
  simp at c_3
  simp [Try.f56, c_3]
  rcases cond_cases hp with ⟨h_4, hp⟩ | ⟨h_4, hp⟩
  · try simp at h_4
    cases hp
    simp [Goal, FnEnd, h_4]
  · try simp at h_4
    obtain ⟨y_5, h_6, hp⟩ := bind_some hp
    have c_7 := C111_eq h_6
    simp at c_7
    try simp [h_4, c_7]
    rcases cond_cases hp with ⟨h_8, hp⟩ | ⟨h_8, hp⟩
    · try simp at h_8
      cases hp
      simp [Goal, FnEnd, h_4, h_8]
    · try simp at h_8
      cases hp
      simp [Goal, FnEnd, h_4, h_8]
theorem pc56 : PC Try.prog 56 C56 := pc_of (g := g56) (ctxOK_of [(110, C110), (111, C111)] rfl ⟨pc110, pc111, trivial⟩) ⟨Try.f56, Try.func56, by kernel_rfl, by kernel_rfl⟩ fun x y h => w56 h

noncomputable def C67 : List AV → Option AV := specP (X := (List Int) × Int × Unit) fun x => laws_szIntS x.1 x.2.1
theorem C67_eq {a_ left} {y} (h : laws_szIntS a_ left = some y) : C67 [av .shr a_, av .shr left] = some (Res.res y) := specP_eq (X := (List Int) × Int × Unit) (F := fun x => laws_szIntS x.1 x.2.1) (x := (a_, left, ())) h
noncomputable def g67 : Cfg := { P := Try.prog, take := [], keep := [], gho := [], ctx := [] }
@[simp] theorem g67_P : g67.P = Try.prog := rfl
@[simp] theorem g67_t : g67.take = [] := rfl
@[simp] theorem g67_g : g67.gho = [] := rfl
set_option maxRecDepth 100000 in
theorem w67 {a_ left} {y} (hp : laws_szIntS a_ left = some y) : ∃ m, callo g67 0 67 [av .shr a_, av .shr left] mem0 = some (Res.res y, m) := by
  refine start_fn (Try.f67.body.getD .skip) [.tmp 4] rfl rfl Try.func67 (by kernel_rfl) (by kernel_rfl) (by simp [Try.ntmps67]) rfl ?_
  unfold laws_szIntS at hp
  simp [Try.f67]
  rcases cond_cases hp with ⟨h_1, hp⟩ | ⟨h_1, hp⟩
  · try simp at h_1
    cases hp
    simp [Goal, FnEnd, h_1]
  · try simp at h_1
    cases hp
    simp [Goal, FnEnd, h_1]
theorem pc67 : PC Try.prog 67 C67 := pc_of (g := g67) (fun f F h => by cases h) ⟨Try.f67, Try.func67, by kernel_rfl, by kernel_rfl⟩ fun x y h => w67 h

noncomputable def C112 : List AV → Option AV := specP (X := THeap × Int × Unit) fun x => laws_szHeap x.1 x.2.1
theorem C112_eq {a_ left} {y} (h : laws_szHeap a_ left = some y) : C112 [av .shr a_, av .shr left] = some (Res.res y) := specP_eq (X := THeap × Int × Unit) (F := fun x => laws_szHeap x.1 x.2.1) (x := (a_, left, ())) h
noncomputable def g112 : Cfg := { P := Try.prog, take := [], keep := [], gho := [], ctx := [(67, C67)] }
@[simp] theorem g112_P : g112.P = Try.prog := rfl
@[simp] theorem g112_t : g112.take = [] := rfl
@[simp] theorem g112_g : g112.gho = [] := rfl
@[simp] theorem g112_67 : lookN 67 g112.ctx = some C67 := rfl
set_option maxRecDepth 100000 in
theorem w112 {a_ left} {y} (hp : laws_szHeap a_ left = some y) : ∃ m, callo g112 0 112 [av .shr a_, av .shr left] mem0 = some (Res.res y, m) := by
  refine start_fn (Try.f112.body.getD .skip) [.tmp 4] rfl rfl Try.func112 (by kernel_rfl) (by kernel_rfl) (by simp [Try.ntmps112]) rfl ?_
  unfold laws_szHeap at hp
  obtain ⟨y_1, h_2, hp⟩ := bind_some hp
  have c_3 := C67_eq h_2
  simp at c_3
  simp [Try.f112, c_3]
  rcases cond_cases hp with ⟨h_4, hp⟩ | ⟨h_4, hp⟩
  · try simp at h_4
    cases hp
    simp [Goal, FnEnd, h_4]
  · try simp at h_4
    obtain ⟨y_5, h_6, hp⟩ := bind_some hp
    have c_7 := C67_eq h_6
    simp at c_7
    try simp [h_4, c_7]
    rcases cond_cases hp with ⟨h_8, hp⟩ | ⟨h_8, hp⟩
    · try simp at h_8
      cases hp
      simp [Goal, FnEnd, h_4, h_8]
    · try simp at h_8
      cases hp
      simp [Goal, FnEnd, h_4, h_8]
theorem pc112 : PC Try.prog 112 C112 := pc_of (g := g112) (ctxOK_of [(67, C67)] rfl ⟨pc67, trivial⟩) ⟨Try.f112, Try.func112, by kernel_rfl, by kernel_rfl⟩ fun x y h => w112 h

noncomputable def C57 : List AV → Option AV := specP (X := (List THeap) × Int × Unit) fun x => laws_szHeapS x.1 x.2.1
theorem C57_eq {a_ left} {y} (h : laws_szHeapS a_ left = some y) : C57 [av .shr a_, av .shr left] = some (Res.res y) := specP_eq (X := (List THeap) × Int × Unit) (F := fun x => laws_szHeapS x.1 x.2.1) (x := (a_, left, ())) h
noncomputable def g57 : Cfg := { P := Try.prog, take := [], keep := [((57, 5), { hd := [0, 1, 5], bx := [], ex := [1], rt := [4] })], gho := [], ctx := [(112, C112)] }
@[simp] theorem g57_P : g57.P = Try.prog := rfl
@[simp] theorem g57_t : g57.take = [] := rfl
@[simp] theorem g57_g : g57.gho = [] := rfl
@[simp] theorem g57_112 : lookN 112 g57.ctx = some C112 := rfl
set_option maxRecDepth 100000 in
theorem w57 {a_ left} {y} (hp : laws_szHeapS a_ left = some y) : ∃ m, callo g57 0 57 [av .shr a_, av .shr left] mem0 = some (Res.res y, m) := by
  refine start_fn (Try.f57.body.getD .skip) [.tmp 4] rfl rfl Try.func57 (by kernel_rfl) (by kernel_rfl) (by simp [Try.ntmps57]) rfl ?_
  unfold laws_szHeapS at hp
  simp [Try.f57]
  rcases cond_cases hp with ⟨h_1, hp⟩ | ⟨h_1, hp⟩
  · try simp at h_1
    cases hp
    simp [Goal, FnEnd, h_1]
  · try simp at h_1
    try simp [h_1]
    obtain ⟨r_21, h_22, hp⟩ := bind_some hp
    obtain ⟨I_4, I_4_⟩ : ∃ I : Int × Int → St → Prop, I = (fun (s_2 : Int × Int) (σ : St) => σ.env 0 = .one (.l .shr a_.length (encL a_)) ∧ σ.env 1 = .one (.s (.int .i64 s_2.1)) ∧ σ.env 5 = .one (.s (.int .i64 s_2.2)) ∧ σ.mem = mem0) := ⟨_, rfl⟩
    obtain ⟨X_5, X_5_⟩ : ∃ X : ((Int) ⊕ (Int)) → Out → Prop, X = (fun (r_21 : (Int) ⊕ (Int)) (out : Out) => Sum.elim (fun r_21 => ∃ σ : St, out = .ret σ ∧ σ.env 4 = .one (.s (.int .i64 r_21)) ∧ σ.mem = mem0) (fun r_21 => ∃ σ : St, out = .exit 0 σ ∧ σ.env 1 = .one (.s (.int .i64 r_21)) ∧ σ.mem = mem0) r_21) := ⟨_, rfl⟩
    refine loopP ({ hd := [0, 1, 5], bx := [], ex := [1], rt := [4] }) I_4 X_5 h_22 (by exact rfl) ?_ ?_ ?_
    · rw [I_4_]
      exact ⟨by simp [restrict_env, h_1], by simp [restrict_env, h_1], by simp [restrict_env, h_1], by simp [restrict_mem, h_1]⟩
    · intro s_2 σ_6 a_3 hI hp
      rw [I_4_] at hI
      obtain ⟨q_7, q_8, q_9, q_10⟩ := hI
      try simp [h_1, q_7, q_8, q_9, q_10]
      rcases cond_cases hp with ⟨h_11, hp⟩ | ⟨h_11, hp⟩
      · try simp at h_11
        obtain ⟨e_12, h_13, hp⟩ := bind_some hp
        have b_14 := at_lo h_13
        have b_15 := at_hi h_13
        try simp at b_14
        try simp at b_15
        have c_16 := seg_at' h_13 0 2 (by decide) (ds := [.sl e_12.vars.length (encL e_12.vars), .sl e_12.next.length (encL e_12.next)]) rfl
        try simp at c_16
        obtain ⟨y_17, h_18, hp⟩ := bind_some hp
        have c_19 := C112_eq h_18
        simp at c_19
        try simp [h_1, q_7, q_8, q_9, q_10, h_11, b_14, b_15, c_16, c_19]
        rcases cond_cases hp with ⟨h_20, hp⟩ | ⟨h_20, hp⟩
        · try simp at h_20
          cases hp
          try simp [h_1, q_7, q_8, q_9, q_10, h_11, h_20]
          refine goal_outR ?_
          rw [X_5_]
          exact ⟨_, rfl, by simp [restrict_env, h_1, q_7, q_8, q_9, q_10, h_11, h_20], by simp [restrict_mem, h_1, q_7, q_8, q_9, q_10, h_11, h_20]⟩
        · try simp at h_20
          cases hp
          try simp [h_1, q_7, q_8, q_9, q_10, h_11, h_20]
          refine goal_next ?_
          rw [I_4_]
          exact ⟨by simp [restrict_env, h_1, q_7, q_8, q_9, q_10, h_11, h_20], by simp [restrict_env, h_1, q_7, q_8, q_9, q_10, h_11, h_20], by simp [restrict_env, h_1, q_7, q_8, q_9, q_10, h_11, h_20], by simp [restrict_mem, h_1, q_7, q_8, q_9, q_10, h_11, h_20]⟩
      · try simp at h_11
        cases hp
        try simp [h_1, q_7, q_8, q_9, q_10, h_11]
        refine goal_outX ?_
        rw [X_5_]
        exact ⟨_, rfl, by simp [restrict_env, h_1, q_7, q_8, q_9, q_10, h_11], by simp [restrict_mem, h_1, q_7, q_8, q_9, q_10, h_11]⟩
    · intro out hX
      rw [X_5_] at hX
      rcases r_21 with r_21 | r_21
      · simp only [Sum.elim_inl, Sum.elim_inr] at hX hp
        obtain ⟨σ_23, rfl, q_24, q_25⟩ := hX
        cases hp
        simp [Goal, FnEnd, h_1, q_24, q_25]
      · simp only [Sum.elim_inl, Sum.elim_inr] at hX hp
        obtain ⟨σ_26, rfl, q_27, q_28⟩ := hX
        cases hp
        simp [Goal, FnEnd, h_1, q_27, q_28]
theorem pc57 : PC Try.prog 57 C57 := pc_of (g := g57) (ctxOK_of [(112, C112)] rfl ⟨pc112, trivial⟩) ⟨Try.f57, Try.func57, by kernel_rfl, by kernel_rfl⟩ fun x y h => w57 h

noncomputable def C14 : List AV → Option AV := specP (X := TSession × Int × Unit) fun x => laws_szSession x.1 x.2.1
theorem C14_eq {a_ left} {y} (h : laws_szSession a_ left = some y) : C14 [av .shr a_, av .shr left] = some (Res.res y) := specP_eq (X := TSession × Int × Unit) (F := fun x => laws_szSession x.1 x.2.1) (x := (a_, left, ())) h
noncomputable def g14 : Cfg := { P := Try.prog, take := [], keep := [], gho := [], ctx := [(56, C56), (57, C57)] }
@[simp] theorem g14_P : g14.P = Try.prog := rfl
@[simp] theorem g14_t : g14.take = [] := rfl
@[simp] theorem g14_g : g14.gho = [] := rfl
@[simp] theorem g14_56 : lookN 56 g14.ctx = some C56 := rfl
@[simp] theorem g14_57 : lookN 57 g14.ctx = some C57 := rfl
set_option maxRecDepth 100000 in
theorem w14 {a_ left} {y} (hp : laws_szSession a_ left = some y) : ∃ m, callo g14 0 14 [av .shr a_, av .shr left] mem0 = some (Res.res y, m) := by
  refine start_fn (Try.f14.body.getD .skip) [.tmp 4] rfl rfl Try.func14 (by kernel_rfl) (by kernel_rfl) (by simp [Try.ntmps14]) rfl ?_
  unfold laws_szSession at hp
  obtain ⟨y_1, h_2, hp⟩ := bind_some hp
  have c_3 := C56_eq h_2
  simp at c_3
  simp [Try.f14, c_3]
  rcases cond_cases hp with ⟨h_4, hp⟩ | ⟨h_4, hp⟩
  · try simp at h_4
    cases hp
    simp [Goal, FnEnd, h_4]
  · try simp at h_4
    obtain ⟨y_5, h_6, hp⟩ := bind_some hp
    have c_7 := C57_eq h_6
    simp at c_7
    try simp [h_4, c_7]
    rcases cond_cases hp with ⟨h_8, hp⟩ | ⟨h_8, hp⟩
    · try simp at h_8
      cases hp
      simp [Goal, FnEnd, h_4, h_8]
    · try simp at h_8
      cases hp
      simp [Goal, FnEnd, h_4, h_8]
theorem pc14 : PC Try.prog 14 C14 := pc_of (g := g14) (ctxOK_of [(56, C56), (57, C57)] rfl ⟨pc56, pc57, trivial⟩) ⟨Try.f14, Try.func14, by kernel_rfl, by kernel_rfl⟩ fun x y h => w14 h

noncomputable def C113 : List AV → Option AV := specP (X := (List ByteArray) × Unit) fun x => laws_toStringS x.1
theorem C113_eq {a_} {y} (h : laws_toStringS a_ = some y) : C113 [av .shr a_] = some (Res.res y) := specP_eq (X := (List ByteArray) × Unit) (F := fun x => laws_toStringS x.1) (x := (a_, ())) h
noncomputable def g113 : Cfg := { P := Try.prog, take := [(113, 7)], keep := [((113, 3), { hd := [0, 3, 4], bx := [], ex := [3], rt := [2] })], gho := [((113, atEnd), [.frz (.sl 2 0)])], ctx := [] }
@[simp] theorem g113_P : g113.P = Try.prog := rfl
@[simp] theorem g113_t : g113.take = [(113, 7)] := rfl
@[simp] theorem g113_g : g113.gho = [((113, atEnd), [.frz (.sl 2 0)])] := rfl
set_option maxRecDepth 100000 in
theorem w113 {a_} {y} (hp : laws_toStringS a_ = some y) : ∃ m, callo g113 0 113 [av .shr a_] mem0 = some (Res.res y, m) := by
  refine start_fn (Try.f113.body.getD .skip) [.tmp 2] rfl rfl Try.func113 (by kernel_rfl) (by kernel_rfl) (by simp [Try.ntmps113]) rfl ?_
  unfold laws_toStringS at hp
  obtain ⟨_, h_1, hp⟩ := bind_some hp
  have b_2 := roomI_lo h_1
  have b_3 := roomI_ok h_1
  try simp at b_2
  try simp at b_3
  have r_4 := row_replicate (a_.length : Int).toNat (ByteArray.empty : ByteArray) (by rfl)
  try simp at r_4
  simp [Try.f113, b_2, b_3, r_4]
  obtain ⟨r_27, h_28, hp⟩ := bind_some hp
  obtain ⟨I_7, I_7_⟩ : ∃ I : Int × (List ByteArray) → St → Prop, I = (fun (s_5 : Int × (List ByteArray)) (σ : St) => σ.env 0 = .one (.l .shr a_.length (encL a_)) ∧ σ.env 3 = .one (.bs (1, 7) s_5.2.length 1) ∧ σ.env 4 = .one (.s (.int .i64 s_5.1)) ∧ σ.mem (1, 7) = some (rowC s_5.2) ∧ NoBox [(1, 7)] σ.mem) := ⟨_, rfl⟩
  obtain ⟨X_8, X_8_⟩ : ∃ X : (List ByteArray) → Out → Prop, X = (fun (r_27 : (List ByteArray)) (out : Out) => ∃ σ : St, out = .exit 0 σ ∧ σ.env 3 = .one (.bs (1, 7) r_27.length 1) ∧ σ.mem (1, 7) = some (rowC r_27) ∧ NoBox [(1, 7)] σ.mem) := ⟨_, rfl⟩
  refine loopP ({ hd := [0, 3, 4], bx := [], ex := [3], rt := [2] }) I_7 X_8 h_28 (by exact rfl) ?_ ?_ ?_
  · rw [I_7_]
    exact ⟨by simp [restrict_env], by simp [restrict_env], by simp [restrict_env], by simp [restrict_mem], NoBox.restrict (by intro k hk hb; simp at hk hb; simp [hk, hb])⟩
  · intro s_5 σ_9 a_6 hI hp
    rw [I_7_] at hI
    obtain ⟨q_10, q_11, q_12, q_13, hn_14⟩ := hI
    try simp [q_10, q_11, q_12, q_13]
    rcases cond_cases hp with ⟨h_15, hp⟩ | ⟨h_15, hp⟩
    · try simp at h_15
      obtain ⟨e_16, h_17, hp⟩ := bind_some hp
      have b_18 := at_lo h_17
      have b_19 := at_hi h_17
      try simp at b_18
      try simp at b_19
      have c_20 := seg_at' h_17 0 1 (by decide) (ds := [.sc (.string e_16)]) rfl
      try simp at c_20
      obtain ⟨e_21, h_22, hp⟩ := bind_some hp
      have b_23 := at_lo h_22
      have b_24 := at_hi h_22
      try simp at b_23
      try simp at b_24
      have c_25 := splice_row h_22 0 e_16 [(.s (.string e_16))] (by simp) rfl
      try simp at c_25
      have l_26 := row_room h_22 0 (m := 1) (by decide)
      try simp at l_26
      cases hp
      try simp [q_10, q_11, q_12, q_13, h_15, b_18, b_19, c_20, b_23, b_24, c_25, l_26]
      refine goal_next ?_
      rw [I_7_]
      exact ⟨by simp [restrict_env, q_10, q_11, q_12, q_13, h_15, b_18, b_19, c_20, b_23, b_24, c_25, l_26], by simp [restrict_env, q_10, q_11, q_12, q_13, h_15, b_18, b_19, c_20, b_23, b_24, c_25, l_26], by simp [restrict_env, q_10, q_11, q_12, q_13, h_15, b_18, b_19, c_20, b_23, b_24, c_25, l_26], by simp [restrict_mem, q_10, q_11, q_12, q_13, h_15, b_18, b_19, c_20, b_23, b_24, c_25, l_26], NoBox.restrict (by intro k hk hb; simp at hk hb; simp [hk, hb, q_10, q_11, q_12, q_13, h_15, b_18, b_19, c_20, b_23, b_24, c_25, l_26, hn_14 k (by simp [hk, hb])])⟩
    · try simp at h_15
      cases hp
      try simp [q_10, q_11, q_12, q_13, h_15]
      refine goal_outX ?_
      rw [X_8_]
      exact ⟨_, rfl, by simp [restrict_env, q_10, q_11, q_12, q_13, h_15], by simp [restrict_mem, q_10, q_11, q_12, q_13, h_15], NoBox.restrict (by intro k hk hb; simp at hk hb; simp [hk, hb, q_10, q_11, q_12, q_13, h_15, hn_14 k (by simp [hk, hb])])⟩
  · intro out hX
    rw [X_8_] at hX
    obtain ⟨σ_29, rfl, q_30, q_31, hn_32⟩ := hX
    cases hp
    simp [Goal, FnEnd, q_30, q_31]
theorem pc113 : PC Try.prog 113 C113 := pc_of (g := g113) (fun f F h => by cases h) ⟨Try.f113, Try.func113, by kernel_rfl, by kernel_rfl⟩ fun x y h => w113 h

noncomputable def C173 : List AV → Option AV := specP (X := TStmt × Unit) fun x => laws_toStmt x.1
theorem C173_eq {a_} {y} (h : laws_toStmt a_ = some y) : C173 [av .shr a_] = some (Res.res y) := specP_eq (X := TStmt × Unit) (F := fun x => laws_toStmt x.1) (x := (a_, ())) h
noncomputable def g173 : Cfg := { P := Try.prog, take := [], keep := [], gho := [], ctx := [] }
@[simp] theorem g173_P : g173.P = Try.prog := rfl
@[simp] theorem g173_t : g173.take = [] := rfl
@[simp] theorem g173_g : g173.gho = [] := rfl
set_option maxRecDepth 100000 in
theorem w173 {a_} {y} (hp : laws_toStmt a_ = some y) : ∃ m, callo g173 0 173 [av .shr a_] mem0 = some (Res.res y, m) := by
  refine start_fn (Try.f173.body.getD .skip) [.cell 2 132] rfl rfl Try.func173 (by kernel_rfl) (by kernel_rfl) (by simp [Try.ntmps173]) rfl ?_
  unfold laws_toStmt at hp
  cases hp
  simp [Try.f173, Goal, FnEnd, retR, rsrc, RSrc.val, nodupR, nodup, tupPart]
theorem pc173 : PC Try.prog 173 C173 := pc_of (g := g173) (fun f F h => by cases h) ⟨Try.f173, Try.func173, by kernel_rfl, by kernel_rfl⟩ fun x y h => w173 h

noncomputable def C158 : List AV → Option AV := specP (X := TEdge × Unit) fun x => laws_toEdge x.1
theorem C158_eq {a_} {y} (h : laws_toEdge a_ = some y) : C158 [av .shr a_] = some (Res.res y) := specP_eq (X := TEdge × Unit) (F := fun x => laws_toEdge x.1) (x := (a_, ())) h
noncomputable def g158 : Cfg := { P := Try.prog, take := [], keep := [], gho := [], ctx := [(173, C173)] }
@[simp] theorem g158_P : g158.P = Try.prog := rfl
@[simp] theorem g158_t : g158.take = [] := rfl
@[simp] theorem g158_g : g158.gho = [] := rfl
@[simp] theorem g158_173 : lookN 173 g158.ctx = some C173 := rfl
set_option maxRecDepth 100000 in
theorem w158 {a_} {y} (hp : laws_toEdge a_ = some y) : ∃ m, callo g158 0 158 [av .shr a_] mem0 = some (Res.res y, m) := by
  refine start_fn (Try.f158.body.getD .skip) [.cell 2 134] rfl rfl Try.func158 (by kernel_rfl) (by kernel_rfl) (by simp [Try.ntmps158]) rfl ?_
  unfold laws_toEdge at hp
  obtain ⟨y_1, h_2, hp⟩ := bind_some hp
  have c_3 := C173_eq h_2
  simp at c_3
  cases hp
  simp [Try.f158, Goal, FnEnd, retR, rsrc, RSrc.val, nodupR, nodup, tupPart, c_3]
theorem pc158 : PC Try.prog 158 C158 := pc_of (g := g158) (ctxOK_of [(173, C173)] rfl ⟨pc173, trivial⟩) ⟨Try.f158, Try.func158, by kernel_rfl, by kernel_rfl⟩ fun x y h => w158 h

noncomputable def C114 : List AV → Option AV := specP (X := (List TEdge) × Unit) fun x => laws_toEdgeS x.1
theorem C114_eq {a_} {y} (h : laws_toEdgeS a_ = some y) : C114 [av .shr a_] = some (Res.res y) := specP_eq (X := (List TEdge) × Unit) (F := fun x => laws_toEdgeS x.1) (x := (a_, ())) h
noncomputable def g114 : Cfg := { P := Try.prog, take := [(114, 7)], keep := [((114, 3), { hd := [0, 3, 4], bx := [], ex := [3], rt := [2] })], gho := [((114, atEnd), [.frz (.sl 2 0)])], ctx := [(158, C158)] }
@[simp] theorem g114_P : g114.P = Try.prog := rfl
@[simp] theorem g114_t : g114.take = [(114, 7)] := rfl
@[simp] theorem g114_g : g114.gho = [((114, atEnd), [.frz (.sl 2 0)])] := rfl
@[simp] theorem g114_158 : lookN 158 g114.ctx = some C158 := rfl
set_option maxRecDepth 100000 in
theorem w114 {a_} {y} (hp : laws_toEdgeS a_ = some y) : ∃ m, callo g114 0 114 [av .shr a_] mem0 = some (Res.res y, m) := by
  refine start_fn (Try.f114.body.getD .skip) [.tmp 2] rfl rfl Try.func114 (by kernel_rfl) (by kernel_rfl) (by simp [Try.ntmps114]) rfl ?_
  unfold laws_toEdgeS at hp
  obtain ⟨_, h_1, hp⟩ := bind_some hp
  have b_2 := roomI_lo h_1
  have b_3 := roomI_ok h_1
  try simp at b_2
  try simp at b_3
  have r_4 := row_replicate (a_.length : Int).toNat ((⟨0, 0, (⟨0, ByteArray.empty, ByteArray.empty⟩ : TStmt)⟩ : TEdge) : TEdge) (by rfl)
  try simp at r_4
  simp [Try.f114, b_2, b_3, r_4]
  obtain ⟨r_30, h_31, hp⟩ := bind_some hp
  obtain ⟨I_7, I_7_⟩ : ∃ I : Int × (List TEdge) → St → Prop, I = (fun (s_5 : Int × (List TEdge)) (σ : St) => σ.env 0 = .one (.l .shr a_.length (encL a_)) ∧ σ.env 3 = .one (.bs (1, 7) s_5.2.length 5) ∧ σ.env 4 = .one (.s (.int .i64 s_5.1)) ∧ σ.mem (1, 7) = some (rowC s_5.2) ∧ NoBox [(1, 7)] σ.mem) := ⟨_, rfl⟩
  obtain ⟨X_8, X_8_⟩ : ∃ X : (List TEdge) → Out → Prop, X = (fun (r_30 : (List TEdge)) (out : Out) => ∃ σ : St, out = .exit 0 σ ∧ σ.env 3 = .one (.bs (1, 7) r_30.length 5) ∧ σ.mem (1, 7) = some (rowC r_30) ∧ NoBox [(1, 7)] σ.mem) := ⟨_, rfl⟩
  refine loopP ({ hd := [0, 3, 4], bx := [], ex := [3], rt := [2] }) I_7 X_8 h_31 (by exact rfl) ?_ ?_ ?_
  · rw [I_7_]
    exact ⟨by simp [restrict_env], by simp [restrict_env], by simp [restrict_env], by simp [restrict_mem], NoBox.restrict (by intro k hk hb; simp at hk hb; simp [hk, hb])⟩
  · intro s_5 σ_9 a_6 hI hp
    rw [I_7_] at hI
    obtain ⟨q_10, q_11, q_12, q_13, hn_14⟩ := hI
    try simp [q_10, q_11, q_12, q_13]
    rcases cond_cases hp with ⟨h_15, hp⟩ | ⟨h_15, hp⟩
    · try simp at h_15
      obtain ⟨e_16, h_17, hp⟩ := bind_some hp
      have b_18 := at_lo h_17
      have b_19 := at_hi h_17
      try simp at b_18
      try simp at b_19
      have c_20 := seg_at' h_17 0 5 (by decide) (ds := [.sc (.int .i64 e_16.from_), .sc (.int .i64 e_16.to_), .sc (.int .i64 e_16.stmt.kind), .sc (.string e_16.stmt.a), .sc (.string e_16.stmt.b)]) rfl
      try simp at c_20
      obtain ⟨y_21, h_22, hp⟩ := bind_some hp
      have c_23 := C158_eq h_22
      simp at c_23
      obtain ⟨e_24, h_25, hp⟩ := bind_some hp
      have b_26 := at_lo h_25
      have b_27 := at_hi h_25
      try simp at b_26
      try simp at b_27
      have c_28 := splice_row h_25 0 y_21 [(.s (.int .i64 y_21.from_)), (.s (.int .i64 y_21.to_)), (.s (.int .i64 y_21.stmt.kind)), (.s (.string y_21.stmt.a)), (.s (.string y_21.stmt.b))] (by simp) rfl
      try simp at c_28
      have l_29 := row_room h_25 0 (m := 5) (by decide)
      try simp at l_29
      cases hp
      try simp [q_10, q_11, q_12, q_13, h_15, b_18, b_19, c_20, c_23, b_26, b_27, c_28, l_29]
      refine goal_next ?_
      rw [I_7_]
      exact ⟨by simp [restrict_env, q_10, q_11, q_12, q_13, h_15, b_18, b_19, c_20, c_23, b_26, b_27, c_28, l_29], by simp [restrict_env, q_10, q_11, q_12, q_13, h_15, b_18, b_19, c_20, c_23, b_26, b_27, c_28, l_29], by simp [restrict_env, q_10, q_11, q_12, q_13, h_15, b_18, b_19, c_20, c_23, b_26, b_27, c_28, l_29], by simp [restrict_mem, q_10, q_11, q_12, q_13, h_15, b_18, b_19, c_20, c_23, b_26, b_27, c_28, l_29], NoBox.restrict (by intro k hk hb; simp at hk hb; simp [hk, hb, q_10, q_11, q_12, q_13, h_15, b_18, b_19, c_20, c_23, b_26, b_27, c_28, l_29, hn_14 k (by simp [hk, hb])])⟩
    · try simp at h_15
      cases hp
      try simp [q_10, q_11, q_12, q_13, h_15]
      refine goal_outX ?_
      rw [X_8_]
      exact ⟨_, rfl, by simp [restrict_env, q_10, q_11, q_12, q_13, h_15], by simp [restrict_mem, q_10, q_11, q_12, q_13, h_15], NoBox.restrict (by intro k hk hb; simp at hk hb; simp [hk, hb, q_10, q_11, q_12, q_13, h_15, hn_14 k (by simp [hk, hb])])⟩
  · intro out hX
    rw [X_8_] at hX
    obtain ⟨σ_32, rfl, q_33, q_34, hn_35⟩ := hX
    cases hp
    simp [Goal, FnEnd, q_33, q_34]
theorem pc114 : PC Try.prog 114 C114 := pc_of (g := g114) (ctxOK_of [(158, C158)] rfl ⟨pc158, trivial⟩) ⟨Try.f114, Try.func114, by kernel_rfl, by kernel_rfl⟩ fun x y h => w114 h

noncomputable def C60 : List AV → Option AV := specP (X := TProgram × Unit) fun x => laws_toProgram x.1
theorem C60_eq {a_} {y} (h : laws_toProgram a_ = some y) : C60 [av .shr a_] = some (Res.res y) := specP_eq (X := TProgram × Unit) (F := fun x => laws_toProgram x.1) (x := (a_, ())) h
noncomputable def g60 : Cfg := { P := Try.prog, take := [(60, 15)], keep := [], gho := [], ctx := [(113, C113), (114, C114)] }
@[simp] theorem g60_P : g60.P = Try.prog := rfl
@[simp] theorem g60_t : g60.take = [(60, 15)] := rfl
@[simp] theorem g60_g : g60.gho = [] := rfl
@[simp] theorem g60_113 : lookN 113 g60.ctx = some C113 := rfl
@[simp] theorem g60_114 : lookN 114 g60.ctx = some C114 := rfl
set_option maxRecDepth 100000 in
theorem w60 {a_} {y} (hp : laws_toProgram a_ = some y) : ∃ m, callo g60 0 60 [av .shr a_] mem0 = some (Res.res y, m) := by
  refine start_fn (Try.f60.body.getD .skip) [.cell 2 38] rfl rfl Try.func60 (by kernel_rfl) (by kernel_rfl) (by simp [Try.ntmps60]) rfl ?_
  unfold laws_toProgram at hp
  obtain ⟨y_1, h_2, hp⟩ := bind_some hp
  have c_3 := C113_eq h_2
  simp at c_3
  obtain ⟨y_4, h_5, hp⟩ := bind_some hp
  have c_6 := C114_eq h_5
  simp at c_6
  cases hp
  simp [Try.f60, Goal, FnEnd, retR, rsrc, RSrc.val, nodupR, nodup, tupPart, c_3, c_6]
theorem pc60 : PC Try.prog 60 C60 := pc_of (g := g60) (ctxOK_of [(113, C113), (114, C114)] rfl ⟨pc113, pc114, trivial⟩) ⟨Try.f60, Try.func60, by kernel_rfl, by kernel_rfl⟩ fun x y h => w60 h

noncomputable def C76 : List AV → Option AV := specP (X := (List Int) × Unit) fun x => laws_toIntS x.1
theorem C76_eq {a_} {y} (h : laws_toIntS a_ = some y) : C76 [av .shr a_] = some (Res.res y) := specP_eq (X := (List Int) × Unit) (F := fun x => laws_toIntS x.1) (x := (a_, ())) h
noncomputable def g76 : Cfg := { P := Try.prog, take := [(76, 7)], keep := [((76, 3), { hd := [0, 3, 4], bx := [], ex := [3], rt := [2] })], gho := [((76, atEnd), [.frz (.sl 2 0)])], ctx := [] }
@[simp] theorem g76_P : g76.P = Try.prog := rfl
@[simp] theorem g76_t : g76.take = [(76, 7)] := rfl
@[simp] theorem g76_g : g76.gho = [((76, atEnd), [.frz (.sl 2 0)])] := rfl
set_option maxRecDepth 100000 in
theorem w76 {a_} {y} (hp : laws_toIntS a_ = some y) : ∃ m, callo g76 0 76 [av .shr a_] mem0 = some (Res.res y, m) := by
  refine start_fn (Try.f76.body.getD .skip) [.tmp 2] rfl rfl Try.func76 (by kernel_rfl) (by kernel_rfl) (by simp [Try.ntmps76]) rfl ?_
  unfold laws_toIntS at hp
  obtain ⟨_, h_1, hp⟩ := bind_some hp
  have b_2 := roomI_lo h_1
  have b_3 := roomI_ok h_1
  try simp at b_2
  try simp at b_3
  have r_4 := row_replicate (a_.length : Int).toNat (0 : Int) (by rfl)
  try simp at r_4
  simp [Try.f76, b_2, b_3, r_4]
  obtain ⟨r_27, h_28, hp⟩ := bind_some hp
  obtain ⟨I_7, I_7_⟩ : ∃ I : Int × (List Int) → St → Prop, I = (fun (s_5 : Int × (List Int)) (σ : St) => σ.env 0 = .one (.l .shr a_.length (encL a_)) ∧ σ.env 3 = .one (.bs (1, 7) s_5.2.length 1) ∧ σ.env 4 = .one (.s (.int .i64 s_5.1)) ∧ σ.mem (1, 7) = some (rowC s_5.2) ∧ NoBox [(1, 7)] σ.mem) := ⟨_, rfl⟩
  obtain ⟨X_8, X_8_⟩ : ∃ X : (List Int) → Out → Prop, X = (fun (r_27 : (List Int)) (out : Out) => ∃ σ : St, out = .exit 0 σ ∧ σ.env 3 = .one (.bs (1, 7) r_27.length 1) ∧ σ.mem (1, 7) = some (rowC r_27) ∧ NoBox [(1, 7)] σ.mem) := ⟨_, rfl⟩
  refine loopP ({ hd := [0, 3, 4], bx := [], ex := [3], rt := [2] }) I_7 X_8 h_28 (by exact rfl) ?_ ?_ ?_
  · rw [I_7_]
    exact ⟨by simp [restrict_env], by simp [restrict_env], by simp [restrict_env], by simp [restrict_mem], NoBox.restrict (by intro k hk hb; simp at hk hb; simp [hk, hb])⟩
  · intro s_5 σ_9 a_6 hI hp
    rw [I_7_] at hI
    obtain ⟨q_10, q_11, q_12, q_13, hn_14⟩ := hI
    try simp [q_10, q_11, q_12, q_13]
    rcases cond_cases hp with ⟨h_15, hp⟩ | ⟨h_15, hp⟩
    · try simp at h_15
      obtain ⟨e_16, h_17, hp⟩ := bind_some hp
      have b_18 := at_lo h_17
      have b_19 := at_hi h_17
      try simp at b_18
      try simp at b_19
      have c_20 := seg_at' h_17 0 1 (by decide) (ds := [.sc (.int .i64 e_16)]) rfl
      try simp at c_20
      obtain ⟨e_21, h_22, hp⟩ := bind_some hp
      have b_23 := at_lo h_22
      have b_24 := at_hi h_22
      try simp at b_23
      try simp at b_24
      have c_25 := splice_row h_22 0 e_16 [(.s (.int .i64 e_16))] (by simp) rfl
      try simp at c_25
      have l_26 := row_room h_22 0 (m := 1) (by decide)
      try simp at l_26
      cases hp
      try simp [q_10, q_11, q_12, q_13, h_15, b_18, b_19, c_20, b_23, b_24, c_25, l_26]
      refine goal_next ?_
      rw [I_7_]
      exact ⟨by simp [restrict_env, q_10, q_11, q_12, q_13, h_15, b_18, b_19, c_20, b_23, b_24, c_25, l_26], by simp [restrict_env, q_10, q_11, q_12, q_13, h_15, b_18, b_19, c_20, b_23, b_24, c_25, l_26], by simp [restrict_env, q_10, q_11, q_12, q_13, h_15, b_18, b_19, c_20, b_23, b_24, c_25, l_26], by simp [restrict_mem, q_10, q_11, q_12, q_13, h_15, b_18, b_19, c_20, b_23, b_24, c_25, l_26], NoBox.restrict (by intro k hk hb; simp at hk hb; simp [hk, hb, q_10, q_11, q_12, q_13, h_15, b_18, b_19, c_20, b_23, b_24, c_25, l_26, hn_14 k (by simp [hk, hb])])⟩
    · try simp at h_15
      cases hp
      try simp [q_10, q_11, q_12, q_13, h_15]
      refine goal_outX ?_
      rw [X_8_]
      exact ⟨_, rfl, by simp [restrict_env, q_10, q_11, q_12, q_13, h_15], by simp [restrict_mem, q_10, q_11, q_12, q_13, h_15], NoBox.restrict (by intro k hk hb; simp at hk hb; simp [hk, hb, q_10, q_11, q_12, q_13, h_15, hn_14 k (by simp [hk, hb])])⟩
  · intro out hX
    rw [X_8_] at hX
    obtain ⟨σ_29, rfl, q_30, q_31, hn_32⟩ := hX
    cases hp
    simp [Goal, FnEnd, q_30, q_31]
theorem pc76 : PC Try.prog 76 C76 := pc_of (g := g76) (fun f F h => by cases h) ⟨Try.f76, Try.func76, by kernel_rfl, by kernel_rfl⟩ fun x y h => w76 h

noncomputable def C115 : List AV → Option AV := specP (X := THeap × Unit) fun x => laws_toHeap x.1
theorem C115_eq {a_} {y} (h : laws_toHeap a_ = some y) : C115 [av .shr a_] = some (Res.res y) := specP_eq (X := THeap × Unit) (F := fun x => laws_toHeap x.1) (x := (a_, ())) h
noncomputable def g115 : Cfg := { P := Try.prog, take := [(115, 12)], keep := [], gho := [], ctx := [(76, C76)] }
@[simp] theorem g115_P : g115.P = Try.prog := rfl
@[simp] theorem g115_t : g115.take = [(115, 12)] := rfl
@[simp] theorem g115_g : g115.gho = [] := rfl
@[simp] theorem g115_76 : lookN 76 g115.ctx = some C76 := rfl
set_option maxRecDepth 100000 in
theorem w115 {a_} {y} (hp : laws_toHeap a_ = some y) : ∃ m, callo g115 0 115 [av .shr a_] mem0 = some (Res.res y, m) := by
  refine start_fn (Try.f115.body.getD .skip) [.cell 2 72] rfl rfl Try.func115 (by kernel_rfl) (by kernel_rfl) (by simp [Try.ntmps115]) rfl ?_
  unfold laws_toHeap at hp
  obtain ⟨y_1, h_2, hp⟩ := bind_some hp
  have c_3 := C76_eq h_2
  simp at c_3
  obtain ⟨y_4, h_5, hp⟩ := bind_some hp
  have c_6 := C76_eq h_5
  simp at c_6
  cases hp
  simp [Try.f115, Goal, FnEnd, retR, rsrc, RSrc.val, nodupR, nodup, tupPart, c_3, c_6]
theorem pc115 : PC Try.prog 115 C115 := pc_of (g := g115) (ctxOK_of [(76, C76)] rfl ⟨pc76, trivial⟩) ⟨Try.f115, Try.func115, by kernel_rfl, by kernel_rfl⟩ fun x y h => w115 h

noncomputable def C61 : List AV → Option AV := specP (X := (List THeap) × Unit) fun x => laws_toHeapS x.1
theorem C61_eq {a_} {y} (h : laws_toHeapS a_ = some y) : C61 [av .shr a_] = some (Res.res y) := specP_eq (X := (List THeap) × Unit) (F := fun x => laws_toHeapS x.1) (x := (a_, ())) h
noncomputable def g61 : Cfg := { P := Try.prog, take := [(61, 7)], keep := [((61, 3), { hd := [0, 3, 4], bx := [], ex := [3], rt := [2] })], gho := [((61, atEnd), [.frz (.sl 2 0)])], ctx := [(115, C115)] }
@[simp] theorem g61_P : g61.P = Try.prog := rfl
@[simp] theorem g61_t : g61.take = [(61, 7)] := rfl
@[simp] theorem g61_g : g61.gho = [((61, atEnd), [.frz (.sl 2 0)])] := rfl
@[simp] theorem g61_115 : lookN 115 g61.ctx = some C115 := rfl
set_option maxRecDepth 100000 in
theorem w61 {a_} {y} (hp : laws_toHeapS a_ = some y) : ∃ m, callo g61 0 61 [av .shr a_] mem0 = some (Res.res y, m) := by
  refine start_fn (Try.f61.body.getD .skip) [.tmp 2] rfl rfl Try.func61 (by kernel_rfl) (by kernel_rfl) (by simp [Try.ntmps61]) rfl ?_
  unfold laws_toHeapS at hp
  obtain ⟨_, h_1, hp⟩ := bind_some hp
  have b_2 := roomI_lo h_1
  have b_3 := roomI_ok h_1
  try simp at b_2
  try simp at b_3
  have r_4 := row_replicate (a_.length : Int).toNat ((⟨[], []⟩ : THeap) : THeap) (by rfl)
  try simp at r_4
  simp [Try.f61, b_2, b_3, r_4]
  obtain ⟨r_30, h_31, hp⟩ := bind_some hp
  obtain ⟨I_7, I_7_⟩ : ∃ I : Int × (List THeap) → St → Prop, I = (fun (s_5 : Int × (List THeap)) (σ : St) => σ.env 0 = .one (.l .shr a_.length (encL a_)) ∧ σ.env 3 = .one (.bs (1, 7) s_5.2.length 2) ∧ σ.env 4 = .one (.s (.int .i64 s_5.1)) ∧ σ.mem (1, 7) = some (rowC s_5.2) ∧ NoBox [(1, 7)] σ.mem) := ⟨_, rfl⟩
  obtain ⟨X_8, X_8_⟩ : ∃ X : (List THeap) → Out → Prop, X = (fun (r_30 : (List THeap)) (out : Out) => ∃ σ : St, out = .exit 0 σ ∧ σ.env 3 = .one (.bs (1, 7) r_30.length 2) ∧ σ.mem (1, 7) = some (rowC r_30) ∧ NoBox [(1, 7)] σ.mem) := ⟨_, rfl⟩
  refine loopP ({ hd := [0, 3, 4], bx := [], ex := [3], rt := [2] }) I_7 X_8 h_31 (by exact rfl) ?_ ?_ ?_
  · rw [I_7_]
    exact ⟨by simp [restrict_env], by simp [restrict_env], by simp [restrict_env], by simp [restrict_mem], NoBox.restrict (by intro k hk hb; simp at hk hb; simp [hk, hb])⟩
  · intro s_5 σ_9 a_6 hI hp
    rw [I_7_] at hI
    obtain ⟨q_10, q_11, q_12, q_13, hn_14⟩ := hI
    try simp [q_10, q_11, q_12, q_13]
    rcases cond_cases hp with ⟨h_15, hp⟩ | ⟨h_15, hp⟩
    · try simp at h_15
      obtain ⟨e_16, h_17, hp⟩ := bind_some hp
      have b_18 := at_lo h_17
      have b_19 := at_hi h_17
      try simp at b_18
      try simp at b_19
      have c_20 := seg_at' h_17 0 2 (by decide) (ds := [.sl e_16.vars.length (encL e_16.vars), .sl e_16.next.length (encL e_16.next)]) rfl
      try simp at c_20
      obtain ⟨y_21, h_22, hp⟩ := bind_some hp
      have c_23 := C115_eq h_22
      simp at c_23
      obtain ⟨e_24, h_25, hp⟩ := bind_some hp
      have b_26 := at_lo h_25
      have b_27 := at_hi h_25
      try simp at b_26
      try simp at b_27
      have c_28 := splice_row h_25 0 y_21 [(.l .own y_21.vars.length (encL y_21.vars)), (.l .own y_21.next.length (encL y_21.next))] (by simp) rfl
      try simp at c_28
      have l_29 := row_room h_25 0 (m := 2) (by decide)
      try simp at l_29
      cases hp
      try simp [q_10, q_11, q_12, q_13, h_15, b_18, b_19, c_20, c_23, b_26, b_27, c_28, l_29]
      refine goal_next ?_
      rw [I_7_]
      exact ⟨by simp [restrict_env, q_10, q_11, q_12, q_13, h_15, b_18, b_19, c_20, c_23, b_26, b_27, c_28, l_29], by simp [restrict_env, q_10, q_11, q_12, q_13, h_15, b_18, b_19, c_20, c_23, b_26, b_27, c_28, l_29], by simp [restrict_env, q_10, q_11, q_12, q_13, h_15, b_18, b_19, c_20, c_23, b_26, b_27, c_28, l_29], by simp [restrict_mem, q_10, q_11, q_12, q_13, h_15, b_18, b_19, c_20, c_23, b_26, b_27, c_28, l_29], NoBox.restrict (by intro k hk hb; simp at hk hb; simp [hk, hb, q_10, q_11, q_12, q_13, h_15, b_18, b_19, c_20, c_23, b_26, b_27, c_28, l_29, hn_14 k (by simp [hk, hb])])⟩
    · try simp at h_15
      cases hp
      try simp [q_10, q_11, q_12, q_13, h_15]
      refine goal_outX ?_
      rw [X_8_]
      exact ⟨_, rfl, by simp [restrict_env, q_10, q_11, q_12, q_13, h_15], by simp [restrict_mem, q_10, q_11, q_12, q_13, h_15], NoBox.restrict (by intro k hk hb; simp at hk hb; simp [hk, hb, q_10, q_11, q_12, q_13, h_15, hn_14 k (by simp [hk, hb])])⟩
  · intro out hX
    rw [X_8_] at hX
    obtain ⟨σ_32, rfl, q_33, q_34, hn_35⟩ := hX
    cases hp
    simp [Goal, FnEnd, q_33, q_34]
theorem pc61 : PC Try.prog 61 C61 := pc_of (g := g61) (ctxOK_of [(115, C115)] rfl ⟨pc115, trivial⟩) ⟨Try.f61, Try.func61, by kernel_rfl, by kernel_rfl⟩ fun x y h => w61 h

noncomputable def C16 : List AV → Option AV := specP (X := TSession × Unit) fun x => laws_toSession x.1
theorem C16_eq {a_} {y} (h : laws_toSession a_ = some y) : C16 [av .shr a_] = some (Res.res y) := specP_eq (X := TSession × Unit) (F := fun x => laws_toSession x.1) (x := (a_, ())) h
noncomputable def g16 : Cfg := { P := Try.prog, take := [(16, 12)], keep := [], gho := [], ctx := [(60, C60), (61, C61)] }
@[simp] theorem g16_P : g16.P = Try.prog := rfl
@[simp] theorem g16_t : g16.take = [(16, 12)] := rfl
@[simp] theorem g16_g : g16.gho = [] := rfl
@[simp] theorem g16_60 : lookN 60 g16.ctx = some C60 := rfl
@[simp] theorem g16_61 : lookN 61 g16.ctx = some C61 := rfl
set_option maxRecDepth 100000 in
theorem w16 {a_} {y} (hp : laws_toSession a_ = some y) : ∃ m, callo g16 0 16 [av .shr a_] mem0 = some (Res.res y, m) := by
  refine start_fn (Try.f16.body.getD .skip) [.cell 2 40] rfl rfl Try.func16 (by kernel_rfl) (by kernel_rfl) (by simp [Try.ntmps16]) rfl ?_
  unfold laws_toSession at hp
  obtain ⟨y_1, h_2, hp⟩ := bind_some hp
  have c_3 := C60_eq h_2
  simp at c_3
  obtain ⟨y_4, h_5, hp⟩ := bind_some hp
  have c_6 := C61_eq h_5
  simp at c_6
  cases hp
  simp [Try.f16, Goal, FnEnd, retR, rsrc, RSrc.val, nodupR, nodup, tupPart, c_3, c_6]
theorem pc16 : PC Try.prog 16 C16 := pc_of (g := g16) (ctxOK_of [(60, C60), (61, C61)] rfl ⟨pc60, pc61, trivial⟩) ⟨Try.f16, Try.func16, by kernel_rfl, by kernel_rfl⟩ fun x y h => w16 h

noncomputable def C58 : List AV → Option AV := specP (X := TProgram × TProgram × Unit) fun x => spec_EqualProgram x.1 x.2.1
theorem C58_eq {code_toArray a1} {y} (h : spec_EqualProgram code_toArray a1 = some y) : C58 [av .shr code_toArray, av .shr a1] = some (Res.res y) := specP_eq (X := TProgram × TProgram × Unit) (F := fun x => spec_EqualProgram x.1 x.2.1) (x := (code_toArray, a1, ())) h
noncomputable def g58 : Cfg := { P := Try.prog, take := [], keep := [((58, 4), { hd := [2, 3, 5], bx := [], ex := [2, 3], rt := [4] }), ((58, 9), { hd := [2, 3, 6], bx := [], ex := [], rt := [4] })], gho := [], ctx := [] }
@[simp] theorem g58_P : g58.P = Try.prog := rfl
@[simp] theorem g58_t : g58.take = [] := rfl
@[simp] theorem g58_g : g58.gho = [] := rfl
set_option maxRecDepth 100000 in
theorem w58 {code_toArray a1} {y} (hp : spec_EqualProgram code_toArray a1 = some y) : ∃ m, callo g58 0 58 [av .shr code_toArray, av .shr a1] mem0 = some (Res.res y, m) := by
  refine start_fn (Try.f58.body.getD .skip) [.tmp 4] rfl rfl Try.func58 (by kernel_rfl) (by kernel_rfl) (by simp [Try.ntmps58]) rfl ?_
  unfold spec_EqualProgram at hp
  simp [Try.f58]
  rcases cond_cases hp with ⟨h_1, hp⟩ | ⟨h_1, hp⟩
  · try simp at h_1
    cases hp
    simp [Goal, FnEnd, h_1]
  · try simp at h_1
    try simp [h_1]
    rcases cond_cases hp with ⟨h_2, hp⟩ | ⟨h_2, hp⟩
    · try simp at h_2
      cases hp
      simp [Goal, FnEnd, h_1, h_2]
    · try simp at h_2
      try simp [h_1, h_2]
      rcases cond_cases hp with ⟨h_3, hp⟩ | ⟨h_3, hp⟩
      · try simp at h_3
        cases hp
        simp [Goal, FnEnd, h_1, h_2, h_3]
      · try simp at h_3
        try simp [h_1, h_2, h_3]
        obtain ⟨r_27, h_28, hp⟩ := bind_some hp
        obtain ⟨I_6, I_6_⟩ : ∃ I : Int → St → Prop, I = (fun (s_4 : Int) (σ : St) => σ.env 2 = .one (.ptr (1, 2) 0) ∧ σ.env 3 = .one (.ptr (1, 3) 0) ∧ σ.env 5 = .one (.s (.int .i64 s_4)) ∧ σ.mem (1, 2) = some [(.l .shr code_toArray.vars.length (encL code_toArray.vars)), (.s (.int .i64 code_toArray.points)), (.l .shr code_toArray.edges.length (encL code_toArray.edges))] ∧ σ.mem (1, 3) = some [(.l .shr a1.vars.length (encL a1.vars)), (.s (.int .i64 a1.points)), (.l .shr a1.edges.length (encL a1.edges))] ∧ NoBox [(1, 2), (1, 3)] σ.mem) := ⟨_, rfl⟩
        obtain ⟨X_7, X_7_⟩ : ∃ X : ((Unit) ⊕ (Unit)) → Out → Prop, X = (fun (r_27 : (Unit) ⊕ (Unit)) (out : Out) => Sum.elim (fun r_27 => ∃ σ : St, out = .ret σ ∧ σ.env 4 = .one (.s (.bool false)) ∧ σ.mem (1, 2) = some [(.l .shr code_toArray.vars.length (encL code_toArray.vars)), (.s (.int .i64 code_toArray.points)), (.l .shr code_toArray.edges.length (encL code_toArray.edges))] ∧ σ.mem (1, 3) = some [(.l .shr a1.vars.length (encL a1.vars)), (.s (.int .i64 a1.points)), (.l .shr a1.edges.length (encL a1.edges))] ∧ NoBox [(1, 2), (1, 3)] σ.mem) (fun r_27 => ∃ σ : St, out = .exit 0 σ ∧ σ.env 2 = .one (.ptr (1, 2) 0) ∧ σ.env 3 = .one (.ptr (1, 3) 0) ∧ σ.mem (1, 2) = some [(.l .shr code_toArray.vars.length (encL code_toArray.vars)), (.s (.int .i64 code_toArray.points)), (.l .shr code_toArray.edges.length (encL code_toArray.edges))] ∧ σ.mem (1, 3) = some [(.l .shr a1.vars.length (encL a1.vars)), (.s (.int .i64 a1.points)), (.l .shr a1.edges.length (encL a1.edges))] ∧ NoBox [(1, 2), (1, 3)] σ.mem) r_27) := ⟨_, rfl⟩
        refine loopP ({ hd := [2, 3, 5], bx := [], ex := [2, 3], rt := [4] }) I_6 X_7 h_28 (by exact rfl) ?_ ?_ ?_
        · rw [I_6_]
          exact ⟨by simp [restrict_env, h_1, h_2, h_3], by simp [restrict_env, h_1, h_2, h_3], by simp [restrict_env, h_1, h_2, h_3], by simp [restrict_mem, h_1, h_2, h_3], by simp [restrict_mem, h_1, h_2, h_3], NoBox.restrict (by intro k hk hb; simp at hk hb; simp [hk, hb, h_1, h_2, h_3])⟩
        · intro s_4 σ_8 a_5 hI hp
          rw [I_6_] at hI
          obtain ⟨q_9, q_10, q_11, q_12, q_13, hn_14⟩ := hI
          try simp [h_1, h_2, h_3, q_9, q_10, q_11, q_12, q_13]
          rcases cond_cases hp with ⟨h_15, hp⟩ | ⟨h_15, hp⟩
          · try simp at h_15
            obtain ⟨e_16, h_17, hp⟩ := bind_some hp
            have b_18 := at_lo h_17
            have b_19 := at_hi h_17
            try simp at b_18
            try simp at b_19
            have c_20 := seg_at' h_17 0 1 (by decide) (ds := [.sc (.string e_16)]) rfl
            try simp at c_20
            obtain ⟨e_21, h_22, hp⟩ := bind_some hp
            have b_23 := at_lo h_22
            have b_24 := at_hi h_22
            try simp at b_23
            try simp at b_24
            have c_25 := seg_at' h_22 0 1 (by decide) (ds := [.sc (.string e_21)]) rfl
            try simp at c_25
            try simp [h_1, h_2, h_3, q_9, q_10, q_11, q_12, q_13, h_15, b_18, b_19, c_20, b_23, b_24, c_25]
            rcases cond_cases hp with ⟨h_26, hp⟩ | ⟨h_26, hp⟩
            · try simp at h_26
              cases hp
              try simp [h_1, h_2, h_3, q_9, q_10, q_11, q_12, q_13, h_15, h_26]
              refine goal_outR ?_
              rw [X_7_]
              exact ⟨_, rfl, by simp [restrict_env, h_1, h_2, h_3, q_9, q_10, q_11, q_12, q_13, h_15, h_26], by simp [restrict_mem, h_1, h_2, h_3, q_9, q_10, q_11, q_12, q_13, h_15, h_26], by simp [restrict_mem, h_1, h_2, h_3, q_9, q_10, q_11, q_12, q_13, h_15, h_26], NoBox.restrict (by intro k hk hb; simp at hk hb; simp [hk, hb, h_1, h_2, h_3, q_9, q_10, q_11, q_12, q_13, h_15, h_26, hn_14 k (by simp [hk, hb])])⟩
            · try simp at h_26
              cases hp
              try simp [h_1, h_2, h_3, q_9, q_10, q_11, q_12, q_13, h_15, h_26]
              refine goal_next ?_
              rw [I_6_]
              exact ⟨by simp [restrict_env, h_1, h_2, h_3, q_9, q_10, q_11, q_12, q_13, h_15, h_26], by simp [restrict_env, h_1, h_2, h_3, q_9, q_10, q_11, q_12, q_13, h_15, h_26], by simp [restrict_env, h_1, h_2, h_3, q_9, q_10, q_11, q_12, q_13, h_15, h_26], by simp [restrict_mem, h_1, h_2, h_3, q_9, q_10, q_11, q_12, q_13, h_15, h_26], by simp [restrict_mem, h_1, h_2, h_3, q_9, q_10, q_11, q_12, q_13, h_15, h_26], NoBox.restrict (by intro k hk hb; simp at hk hb; simp [hk, hb, h_1, h_2, h_3, q_9, q_10, q_11, q_12, q_13, h_15, h_26, hn_14 k (by simp [hk, hb])])⟩
          · try simp at h_15
            cases hp
            try simp [h_1, h_2, h_3, q_9, q_10, q_11, q_12, q_13, h_15]
            refine goal_outX ?_
            rw [X_7_]
            exact ⟨_, rfl, by simp [restrict_env, h_1, h_2, h_3, q_9, q_10, q_11, q_12, q_13, h_15], by simp [restrict_env, h_1, h_2, h_3, q_9, q_10, q_11, q_12, q_13, h_15], by simp [restrict_mem, h_1, h_2, h_3, q_9, q_10, q_11, q_12, q_13, h_15], by simp [restrict_mem, h_1, h_2, h_3, q_9, q_10, q_11, q_12, q_13, h_15], NoBox.restrict (by intro k hk hb; simp at hk hb; simp [hk, hb, h_1, h_2, h_3, q_9, q_10, q_11, q_12, q_13, h_15, hn_14 k (by simp [hk, hb])])⟩
        · intro out hX
          rw [X_7_] at hX
          rcases r_27 with r_27 | r_27
          · simp only [Sum.elim_inl, Sum.elim_inr] at hX hp
            obtain ⟨σ_29, rfl, q_30, q_31, q_32, hn_33⟩ := hX
            cases hp
            simp [Goal, FnEnd, h_1, h_2, h_3, q_30, q_31, q_32]
          · simp only [Sum.elim_inl, Sum.elim_inr] at hX hp
            obtain ⟨σ_34, rfl, q_35, q_36, q_37, q_38, hn_39⟩ := hX
            try simp [h_1, h_2, h_3, q_35, q_36, q_37, q_38]
            obtain ⟨r_64, h_65, hp⟩ := bind_some hp
            obtain ⟨I_42, I_42_⟩ : ∃ I : Int → St → Prop, I = (fun (s_40 : Int) (σ : St) => σ.env 2 = .one (.ptr (1, 2) 0) ∧ σ.env 3 = .one (.ptr (1, 3) 0) ∧ σ.env 6 = .one (.s (.int .i64 s_40)) ∧ σ.mem (1, 2) = some [(.l .shr code_toArray.vars.length (encL code_toArray.vars)), (.s (.int .i64 code_toArray.points)), (.l .shr code_toArray.edges.length (encL code_toArray.edges))] ∧ σ.mem (1, 3) = some [(.l .shr a1.vars.length (encL a1.vars)), (.s (.int .i64 a1.points)), (.l .shr a1.edges.length (encL a1.edges))] ∧ NoBox [(1, 2), (1, 3)] σ.mem) := ⟨_, rfl⟩
            obtain ⟨X_43, X_43_⟩ : ∃ X : ((Bool) ⊕ (Unit)) → Out → Prop, X = (fun (r_64 : (Bool) ⊕ (Unit)) (out : Out) => Sum.elim (fun r_64 => ∃ σ : St, out = .ret σ ∧ σ.env 4 = .one (.s (.bool r_64)) ∧ σ.mem (1, 2) = some [(.l .shr code_toArray.vars.length (encL code_toArray.vars)), (.s (.int .i64 code_toArray.points)), (.l .shr code_toArray.edges.length (encL code_toArray.edges))] ∧ σ.mem (1, 3) = some [(.l .shr a1.vars.length (encL a1.vars)), (.s (.int .i64 a1.points)), (.l .shr a1.edges.length (encL a1.edges))] ∧ NoBox [(1, 2), (1, 3)] σ.mem) (fun r_64 => ∃ σ : St, out = .exit 2 σ ∧ σ.mem (1, 2) = some [(.l .shr code_toArray.vars.length (encL code_toArray.vars)), (.s (.int .i64 code_toArray.points)), (.l .shr code_toArray.edges.length (encL code_toArray.edges))] ∧ σ.mem (1, 3) = some [(.l .shr a1.vars.length (encL a1.vars)), (.s (.int .i64 a1.points)), (.l .shr a1.edges.length (encL a1.edges))] ∧ NoBox [(1, 2), (1, 3)] σ.mem) r_64) := ⟨_, rfl⟩
            refine loopP ({ hd := [2, 3, 6], bx := [], ex := [], rt := [4] }) I_42 X_43 h_65 (by exact rfl) ?_ ?_ ?_
            · rw [I_42_]
              exact ⟨by simp [restrict_env, h_1, h_2, h_3, q_35, q_36, q_37, q_38], by simp [restrict_env, h_1, h_2, h_3, q_35, q_36, q_37, q_38], by simp [restrict_env, h_1, h_2, h_3, q_35, q_36, q_37, q_38], by simp [restrict_mem, h_1, h_2, h_3, q_35, q_36, q_37, q_38], by simp [restrict_mem, h_1, h_2, h_3, q_35, q_36, q_37, q_38], NoBox.restrict (by intro k hk hb; simp at hk hb; simp [hk, hb, h_1, h_2, h_3, q_35, q_36, q_37, q_38, hn_39 k (by simp [hk, hb])])⟩
            · intro s_40 σ_44 a_41 hI hp
              rw [I_42_] at hI
              obtain ⟨q_45, q_46, q_47, q_48, q_49, hn_50⟩ := hI
              try simp [h_1, h_2, h_3, q_45, q_46, q_47, q_48, q_49]
              rcases cond_cases hp with ⟨h_51, hp⟩ | ⟨h_51, hp⟩
              · try simp at h_51
                obtain ⟨e_52, h_53, hp⟩ := bind_some hp
                have b_54 := at_lo h_53
                have b_55 := at_hi h_53
                try simp at b_54
                try simp at b_55
                have c_56 := seg_at' h_53 0 5 (by decide) (ds := [.sc (.int .i64 e_52.from_), .sc (.int .i64 e_52.to_), .sc (.int .i64 e_52.stmt.kind), .sc (.string e_52.stmt.a), .sc (.string e_52.stmt.b)]) rfl
                try simp at c_56
                obtain ⟨e_57, h_58, hp⟩ := bind_some hp
                have b_59 := at_lo h_58
                have b_60 := at_hi h_58
                try simp at b_59
                try simp at b_60
                have c_61 := seg_at' h_58 0 5 (by decide) (ds := [.sc (.int .i64 e_57.from_), .sc (.int .i64 e_57.to_), .sc (.int .i64 e_57.stmt.kind), .sc (.string e_57.stmt.a), .sc (.string e_57.stmt.b)]) rfl
                try simp at c_61
                have c_62 := fun x y => ne_134 x y e_52 e_57
                try simp at c_62
                try simp [h_1, h_2, h_3, q_45, q_46, q_47, q_48, q_49, h_51, b_54, b_55, c_56, b_59, b_60, c_61, c_62]
                rcases cond_cases hp with ⟨h_63, hp⟩ | ⟨h_63, hp⟩
                · try simp at h_63
                  cases hp
                  try simp [h_1, h_2, h_3, q_45, q_46, q_47, q_48, q_49, h_51, h_63]
                  refine goal_outR ?_
                  rw [X_43_]
                  exact ⟨_, rfl, by simp [restrict_env, h_1, h_2, h_3, q_45, q_46, q_47, q_48, q_49, h_51, h_63], by simp [restrict_mem, h_1, h_2, h_3, q_45, q_46, q_47, q_48, q_49, h_51, h_63], by simp [restrict_mem, h_1, h_2, h_3, q_45, q_46, q_47, q_48, q_49, h_51, h_63], NoBox.restrict (by intro k hk hb; simp at hk hb; simp [hk, hb, h_1, h_2, h_3, q_45, q_46, q_47, q_48, q_49, h_51, h_63, hn_50 k (by simp [hk, hb])])⟩
                · try simp at h_63
                  cases hp
                  try simp [h_1, h_2, h_3, q_45, q_46, q_47, q_48, q_49, h_51, h_63]
                  refine goal_next ?_
                  rw [I_42_]
                  exact ⟨by simp [restrict_env, h_1, h_2, h_3, q_45, q_46, q_47, q_48, q_49, h_51, h_63], by simp [restrict_env, h_1, h_2, h_3, q_45, q_46, q_47, q_48, q_49, h_51, h_63], by simp [restrict_env, h_1, h_2, h_3, q_45, q_46, q_47, q_48, q_49, h_51, h_63], by simp [restrict_mem, h_1, h_2, h_3, q_45, q_46, q_47, q_48, q_49, h_51, h_63], by simp [restrict_mem, h_1, h_2, h_3, q_45, q_46, q_47, q_48, q_49, h_51, h_63], NoBox.restrict (by intro k hk hb; simp at hk hb; simp [hk, hb, h_1, h_2, h_3, q_45, q_46, q_47, q_48, q_49, h_51, h_63, hn_50 k (by simp [hk, hb])])⟩
              · try simp at h_51
                cases hp
                try simp [h_1, h_2, h_3, q_45, q_46, q_47, q_48, q_49, h_51]
                refine goal_outX ?_
                rw [X_43_]
                exact ⟨_, rfl, by simp [restrict_mem, h_1, h_2, h_3, q_45, q_46, q_47, q_48, q_49, h_51], by simp [restrict_mem, h_1, h_2, h_3, q_45, q_46, q_47, q_48, q_49, h_51], NoBox.restrict (by intro k hk hb; simp at hk hb; simp [hk, hb, h_1, h_2, h_3, q_45, q_46, q_47, q_48, q_49, h_51, hn_50 k (by simp [hk, hb])])⟩
            · intro out hX
              rw [X_43_] at hX
              rcases r_64 with r_64 | r_64
              · simp only [Sum.elim_inl, Sum.elim_inr] at hX hp
                obtain ⟨σ_66, rfl, q_67, q_68, q_69, hn_70⟩ := hX
                cases hp
                simp [Goal, FnEnd, h_1, h_2, h_3, q_67, q_68, q_69]
              · simp only [Sum.elim_inl, Sum.elim_inr] at hX hp
                obtain ⟨σ_71, rfl, q_72, q_73, hn_74⟩ := hX
                cases hp
                simp [Goal, FnEnd, h_1, h_2, h_3, q_72, q_73]
theorem pc58 : PC Try.prog 58 C58 := pc_of (g := g58) (fun f F h => by cases h) ⟨Try.f58, Try.func58, by kernel_rfl, by kernel_rfl⟩ fun x y h => w58 h
end Go.Proofs
