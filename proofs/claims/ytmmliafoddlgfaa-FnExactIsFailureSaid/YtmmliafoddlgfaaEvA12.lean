import Derived.Test.YtmmliafoddlgfaaEvA11
set_option linter.unusedSimpArgs false
set_option linter.unusedVariables false
set_option linter.unnecessarySimpa false
namespace Go.Proofs
open Go.Ev
noncomputable def C12 : List AV → Option AV := specP (X := (List ByteArray) × Int × Unit) fun x => laws_szStringS x.1 x.2.1
theorem C12_eq {a_ left} {y} (h : laws_szStringS a_ left = some y) : C12 [av .shr a_, av .shr left] = some (Res.res y) := specP_eq (X := (List ByteArray) × Int × Unit) (F := fun x => laws_szStringS x.1 x.2.1) (x := (a_, left, ())) h
noncomputable def g12 : Cfg := { P := Try.prog, take := [], keep := [((12, 5), { hd := [0, 1, 5], bx := [], ex := [1], rt := [4] })], gho := [], ctx := [] }
@[simp] theorem g12_P : g12.P = Try.prog := rfl
@[simp] theorem g12_t : g12.take = [] := rfl
@[simp] theorem g12_g : g12.gho = [] := rfl
@[simp] theorem g12_r : g12.ro = [] := rfl
@[simp] theorem g12_w : g12.away = [] ∧ g12.give = [] ∧ g12.octx = [] := by rw [g12]; exact ⟨rfl, rfl, rfl⟩
set_option maxHeartbeats 4000000 in
set_option maxRecDepth 100000 in
theorem w12 {a_ left} {y} (hp : laws_szStringS a_ left = some y) : ∃ m, callo g12 0 12 [av .shr a_, av .shr left] mem0 = some (Res.res y, m) := by
  refine start_fn (Try.f12.body.getD .skip) [.tmp 4] rfl rfl Try.func12 (by kernel_rfl) (by kernel_rfl) (by simp [Try.ntmps12]) rfl ?_
  unfold laws_szStringS at hp
  simp [Try.f12]
  rcases cond_cases hp with ⟨h_1, hp⟩ | ⟨h_1, hp⟩
  · try simp at h_1
    cases hp
    simp [Goal, FnEnd, h_1]
  · try simp at h_1
    try simp [h_1]
    obtain ⟨r_18, h_19, hp⟩ := bind_some hp
    obtain ⟨I_4, I_4_⟩ : ∃ I : Int × Int → St → Prop, I = (fun (s_2 : Int × Int) (σ : St) => σ.env 0 = .one (.l .shr a_.length (encL a_)) ∧ σ.env 1 = .one (.s (.int .i64 s_2.1)) ∧ σ.env 5 = .one (.s (.int .i64 s_2.2)) ∧ σ.mem = mem0) := ⟨_, rfl⟩
    obtain ⟨X_5, X_5_⟩ : ∃ X : ((Int) ⊕ (Int)) → Out → Prop, X = (fun (r_18 : (Int) ⊕ (Int)) (out : Out) => Sum.elim (fun r_18 => ∃ σ : St, out = .ret σ ∧ σ.env 4 = .one (.s (.int .i64 r_18)) ∧ σ.mem = mem0) (fun r_18 => ∃ σ : St, out = .exit 0 σ ∧ σ.env 1 = .one (.s (.int .i64 r_18)) ∧ σ.mem = mem0) r_18) := ⟨_, rfl⟩
    refine loopP ({ hd := [0, 1, 5], bx := [], ex := [1], rt := [4] }) I_4 X_5 h_19 (by exact rfl) ?_ ?_ ?_
    · rw [I_4_]
      refine ⟨?_, ?_, ?_, ?_⟩ <;> simp [restrict_env, restrict_mem, h_1]
    · intro s_2 σ_6 a_3 hI hp
      rw [I_4_] at hI
      obtain ⟨q_7, q_8, q_9, q_10⟩ := hI
      try simp [h_1, q_7, q_8, q_9, q_10]
      rcases cond_cases hp with ⟨h_11, hp⟩ | ⟨h_11, hp⟩
      · try simp at h_11
        obtain ⟨e_12, h_13, hp⟩ := bind_some hp
        have b_14 := at_lo h_13
        have b_15 := at_hi h_13
        try simp at b_14
        try simp at b_15
        have c_16 := seg_at' h_13 0 1 (by decide) (ds := [.sc (.string e_12)]) rfl
        try simp at c_16
        try simp [h_1, q_7, q_8, q_9, q_10, h_11, b_14, b_15, c_16]
        rcases cond_cases hp with ⟨h_17, hp⟩ | ⟨h_17, hp⟩
        · try simp at h_17
          cases hp
          try simp [h_1, q_7, q_8, q_9, q_10, h_11, h_17]
          refine goal_outR ?_
          rw [X_5_]
          refine ⟨_, rfl, ?_, ?_⟩ <;> simp [restrict_env, restrict_mem, h_1, q_7, q_8, q_9, q_10, h_11, h_17]
        · try simp at h_17
          cases hp
          try simp [h_1, q_7, q_8, q_9, q_10, h_11, h_17]
          refine goal_next ?_
          rw [I_4_]
          refine ⟨?_, ?_, ?_, ?_⟩ <;> simp [restrict_env, restrict_mem, h_1, q_7, q_8, q_9, q_10, h_11, h_17]
      · try simp at h_11
        cases hp
        try simp [h_1, q_7, q_8, q_9, q_10, h_11]
        refine goal_outX ?_
        rw [X_5_]
        refine ⟨_, rfl, ?_, ?_⟩ <;> simp [restrict_env, restrict_mem, h_1, q_7, q_8, q_9, q_10, h_11]
    · intro out hX
      rw [X_5_] at hX
      rcases r_18 with r_18 | r_18
      · simp only [Sum.elim_inl, Sum.elim_inr] at hX hp
        obtain ⟨σ_20, rfl, q_21, q_22⟩ := hX
        cases hp
        simp [Goal, FnEnd, h_1, q_21, q_22]
      · simp only [Sum.elim_inl, Sum.elim_inr] at hX hp
        obtain ⟨σ_23, rfl, q_24, q_25⟩ := hX
        cases hp
        simp [Goal, FnEnd, h_1, q_24, q_25]
theorem pc12 : PC Try.prog 12 C12 := pc_of (g := g12) (ctxOK_of [] rfl trivial) ⟨Try.f12, Try.func12, by kernel_rfl, by kernel_rfl⟩ fun x y h => w12 h

noncomputable def C41 : List AV → Option AV := specP (X := TStmt × Int × Unit) fun x => laws_szStmt x.1 x.2.1
theorem C41_eq {a_ left} {y} (h : laws_szStmt a_ left = some y) : C41 [av .shr a_, av .shr left] = some (Res.res y) := specP_eq (X := TStmt × Int × Unit) (F := fun x => laws_szStmt x.1 x.2.1) (x := (a_, left, ())) h
noncomputable def g41 : Cfg := { P := Try.prog, take := [], keep := [], gho := [], ctx := [] }
@[simp] theorem g41_P : g41.P = Try.prog := rfl
@[simp] theorem g41_t : g41.take = [] := rfl
@[simp] theorem g41_g : g41.gho = [] := rfl
@[simp] theorem g41_r : g41.ro = [] := rfl
@[simp] theorem g41_w : g41.away = [] ∧ g41.give = [] ∧ g41.octx = [] := by rw [g41]; exact ⟨rfl, rfl, rfl⟩
set_option maxHeartbeats 4000000 in
set_option maxRecDepth 100000 in
theorem w41 {a_ left} {y} (hp : laws_szStmt a_ left = some y) : ∃ m, callo g41 0 41 [av .shr a_, av .shr left] mem0 = some (Res.res y, m) := by
  refine start_fn (Try.f41.body.getD .skip) [.tmp 4] rfl rfl Try.func41 (by kernel_rfl) (by kernel_rfl) (by simp [Try.ntmps41]) rfl ?_
  unfold laws_szStmt at hp
  simp [Try.f41]
  rcases cond_cases hp with ⟨h_1, hp⟩ | ⟨h_1, hp⟩
  · try simp at h_1
    cases hp
    simp [Goal, FnEnd, h_1]
  · try simp at h_1
    try simp [h_1]
    rcases cond_cases hp with ⟨h_2, hp⟩ | ⟨h_2, hp⟩
    · try simp at h_2
      cases hp
      simp [Goal, FnEnd, h_1, h_2]
    · try simp at h_2
      cases hp
      simp [Goal, FnEnd, h_1, h_2]
theorem pc41 : PC Try.prog 41 C41 := pc_of (g := g41) (ctxOK_of [] rfl trivial) ⟨Try.f41, Try.func41, by kernel_rfl, by kernel_rfl⟩ fun x y h => w41 h

noncomputable def C28 : List AV → Option AV := specP (X := TEdge × Int × Unit) fun x => laws_szEdge x.1 x.2.1
theorem C28_eq {a_ left} {y} (h : laws_szEdge a_ left = some y) : C28 [av .shr a_, av .shr left] = some (Res.res y) := specP_eq (X := TEdge × Int × Unit) (F := fun x => laws_szEdge x.1 x.2.1) (x := (a_, left, ())) h
noncomputable def g28 : Cfg := { P := Try.prog, take := [], keep := [], gho := [], ctx := [(41, C41)] }
@[simp] theorem g28_P : g28.P = Try.prog := rfl
@[simp] theorem g28_t : g28.take = [] := rfl
@[simp] theorem g28_g : g28.gho = [] := rfl
@[simp] theorem g28_r : g28.ro = [] := rfl
@[simp] theorem g28_w : g28.away = [] ∧ g28.give = [] ∧ g28.octx = [] := by rw [g28]; exact ⟨rfl, rfl, rfl⟩
@[simp] theorem g28_41 : lookN 41 g28.ctx = some C41 := rfl
set_option maxHeartbeats 4000000 in
set_option maxRecDepth 100000 in
theorem w28 {a_ left} {y} (hp : laws_szEdge a_ left = some y) : ∃ m, callo g28 0 28 [av .shr a_, av .shr left] mem0 = some (Res.res y, m) := by
  refine start_fn (Try.f28.body.getD .skip) [.tmp 4] rfl rfl Try.func28 (by kernel_rfl) (by kernel_rfl) (by simp [Try.ntmps28]) rfl ?_
  unfold laws_szEdge at hp
  obtain ⟨y_1, h_2, hp⟩ := bind_some hp
  have c_3 := C41_eq h_2
  simp at c_3
  simp [Try.f28, c_3]
  rcases cond_cases hp with ⟨h_4, hp⟩ | ⟨h_4, hp⟩
  · try simp at h_4
    cases hp
    simp [Goal, FnEnd, h_4]
  · try simp at h_4
    cases hp
    simp [Goal, FnEnd, h_4]
theorem pc28 : PC Try.prog 28 C28 := pc_of (g := g28) (ctxOK_of [(41, C41)] rfl ⟨pc41, trivial⟩) ⟨Try.f28, Try.func28, by kernel_rfl, by kernel_rfl⟩ fun x y h => w28 h

noncomputable def C13 : List AV → Option AV := specP (X := (List TEdge) × Int × Unit) fun x => laws_szEdgeS x.1 x.2.1
theorem C13_eq {a_ left} {y} (h : laws_szEdgeS a_ left = some y) : C13 [av .shr a_, av .shr left] = some (Res.res y) := specP_eq (X := (List TEdge) × Int × Unit) (F := fun x => laws_szEdgeS x.1 x.2.1) (x := (a_, left, ())) h
noncomputable def g13 : Cfg := { P := Try.prog, take := [], keep := [((13, 5), { hd := [0, 1, 5], bx := [], ex := [1], rt := [4] })], gho := [], ctx := [(28, C28)] }
@[simp] theorem g13_P : g13.P = Try.prog := rfl
@[simp] theorem g13_t : g13.take = [] := rfl
@[simp] theorem g13_g : g13.gho = [] := rfl
@[simp] theorem g13_r : g13.ro = [] := rfl
@[simp] theorem g13_w : g13.away = [] ∧ g13.give = [] ∧ g13.octx = [] := by rw [g13]; exact ⟨rfl, rfl, rfl⟩
@[simp] theorem g13_28 : lookN 28 g13.ctx = some C28 := rfl
set_option maxHeartbeats 4000000 in
set_option maxRecDepth 100000 in
theorem w13 {a_ left} {y} (hp : laws_szEdgeS a_ left = some y) : ∃ m, callo g13 0 13 [av .shr a_, av .shr left] mem0 = some (Res.res y, m) := by
  refine start_fn (Try.f13.body.getD .skip) [.tmp 4] rfl rfl Try.func13 (by kernel_rfl) (by kernel_rfl) (by simp [Try.ntmps13]) rfl ?_
  unfold laws_szEdgeS at hp
  simp [Try.f13]
  rcases cond_cases hp with ⟨h_1, hp⟩ | ⟨h_1, hp⟩
  · try simp at h_1
    cases hp
    simp [Goal, FnEnd, h_1]
  · try simp at h_1
    try simp [h_1]
    obtain ⟨r_21, h_22, hp⟩ := bind_some hp
    obtain ⟨I_4, I_4_⟩ : ∃ I : Int × Int → St → Prop, I = (fun (s_2 : Int × Int) (σ : St) => σ.env 0 = .one (.l .shr a_.length (encL a_)) ∧ σ.env 1 = .one (.s (.int .i64 s_2.1)) ∧ σ.env 5 = .one (.s (.int .i64 s_2.2)) ∧ σ.mem = mem0) := ⟨_, rfl⟩
    obtain ⟨X_5, X_5_⟩ : ∃ X : ((Int) ⊕ (Int)) → Out → Prop, X = (fun (r_21 : (Int) ⊕ (Int)) (out : Out) => Sum.elim (fun r_21 => ∃ σ : St, out = .ret σ ∧ σ.env 4 = .one (.s (.int .i64 r_21)) ∧ σ.mem = mem0) (fun r_21 => ∃ σ : St, out = .exit 0 σ ∧ σ.env 1 = .one (.s (.int .i64 r_21)) ∧ σ.mem = mem0) r_21) := ⟨_, rfl⟩
    refine loopP ({ hd := [0, 1, 5], bx := [], ex := [1], rt := [4] }) I_4 X_5 h_22 (by exact rfl) ?_ ?_ ?_
    · rw [I_4_]
      refine ⟨?_, ?_, ?_, ?_⟩ <;> simp [restrict_env, restrict_mem, h_1]
    · intro s_2 σ_6 a_3 hI hp
      rw [I_4_] at hI
      obtain ⟨q_7, q_8, q_9, q_10⟩ := hI
      try simp [h_1, q_7, q_8, q_9, q_10]
      rcases cond_cases hp with ⟨h_11, hp⟩ | ⟨h_11, hp⟩
      · try simp at h_11
        obtain ⟨e_12, h_13, hp⟩ := bind_some hp
        have b_14 := at_lo h_13
        have b_15 := at_hi h_13
        try simp at b_14
        try simp at b_15
        have c_16 := seg_at' h_13 0 5 (by decide) (ds := [.sc (.int .i64 e_12.from_), .sc (.int .i64 e_12.to_), .sc (.int .i64 e_12.stmt.kind), .sc (.string e_12.stmt.a), .sc (.string e_12.stmt.b)]) rfl
        try simp at c_16
        obtain ⟨y_17, h_18, hp⟩ := bind_some hp
        have c_19 := C28_eq h_18
        simp at c_19
        try simp [h_1, q_7, q_8, q_9, q_10, h_11, b_14, b_15, c_16, c_19]
        rcases cond_cases hp with ⟨h_20, hp⟩ | ⟨h_20, hp⟩
        · try simp at h_20
          cases hp
          try simp [h_1, q_7, q_8, q_9, q_10, h_11, h_20]
          refine goal_outR ?_
          rw [X_5_]
          refine ⟨_, rfl, ?_, ?_⟩ <;> simp [restrict_env, restrict_mem, h_1, q_7, q_8, q_9, q_10, h_11, h_20]
        · try simp at h_20
          cases hp
          try simp [h_1, q_7, q_8, q_9, q_10, h_11, h_20]
          refine goal_next ?_
          rw [I_4_]
          refine ⟨?_, ?_, ?_, ?_⟩ <;> simp [restrict_env, restrict_mem, h_1, q_7, q_8, q_9, q_10, h_11, h_20]
      · try simp at h_11
        cases hp
        try simp [h_1, q_7, q_8, q_9, q_10, h_11]
        refine goal_outX ?_
        rw [X_5_]
        refine ⟨_, rfl, ?_, ?_⟩ <;> simp [restrict_env, restrict_mem, h_1, q_7, q_8, q_9, q_10, h_11]
    · intro out hX
      rw [X_5_] at hX
      rcases r_21 with r_21 | r_21
      · simp only [Sum.elim_inl, Sum.elim_inr] at hX hp
        obtain ⟨σ_23, rfl, q_24, q_25⟩ := hX
        cases hp
        simp [Goal, FnEnd, h_1, q_24, q_25]
      · simp only [Sum.elim_inl, Sum.elim_inr] at hX hp
        obtain ⟨σ_26, rfl, q_27, q_28⟩ := hX
        cases hp
        simp [Goal, FnEnd, h_1, q_27, q_28]
theorem pc13 : PC Try.prog 13 C13 := pc_of (g := g13) (ctxOK_of [(28, C28)] rfl ⟨pc28, trivial⟩) ⟨Try.f13, Try.func13, by kernel_rfl, by kernel_rfl⟩ fun x y h => w13 h

noncomputable def C4 : List AV → Option AV := specP (X := TProgram × Int × Unit) fun x => laws_szProgram x.1 x.2.1
theorem C4_eq {a_ left} {y} (h : laws_szProgram a_ left = some y) : C4 [av .shr a_, av .shr left] = some (Res.res y) := specP_eq (X := TProgram × Int × Unit) (F := fun x => laws_szProgram x.1 x.2.1) (x := (a_, left, ())) h
noncomputable def g4 : Cfg := { P := Try.prog, take := [], keep := [], gho := [], ctx := [(12, C12), (13, C13)] }
@[simp] theorem g4_P : g4.P = Try.prog := rfl
@[simp] theorem g4_t : g4.take = [] := rfl
@[simp] theorem g4_g : g4.gho = [] := rfl
@[simp] theorem g4_r : g4.ro = [] := rfl
@[simp] theorem g4_w : g4.away = [] ∧ g4.give = [] ∧ g4.octx = [] := by rw [g4]; exact ⟨rfl, rfl, rfl⟩
@[simp] theorem g4_12 : lookN 12 g4.ctx = some C12 := rfl
@[simp] theorem g4_13 : lookN 13 g4.ctx = some C13 := rfl
set_option maxHeartbeats 4000000 in
set_option maxRecDepth 100000 in
theorem w4 {a_ left} {y} (hp : laws_szProgram a_ left = some y) : ∃ m, callo g4 0 4 [av .shr a_, av .shr left] mem0 = some (Res.res y, m) := by
  refine start_fn (Try.f4.body.getD .skip) [.tmp 4] rfl rfl Try.func4 (by kernel_rfl) (by kernel_rfl) (by simp [Try.ntmps4]) rfl ?_
  unfold laws_szProgram at hp
  obtain ⟨y_1, h_2, hp⟩ := bind_some hp
  have c_3 := C12_eq h_2
  simp at c_3
  simp [Try.f4, c_3]
  rcases cond_cases hp with ⟨h_4, hp⟩ | ⟨h_4, hp⟩
  · try simp at h_4
    cases hp
    simp [Goal, FnEnd, h_4]
  · try simp at h_4
    obtain ⟨y_5, h_6, hp⟩ := bind_some hp
    have c_7 := C13_eq h_6
    simp at c_7
    try simp [h_4, c_7]
    rcases cond_cases hp with ⟨h_8, hp⟩ | ⟨h_8, hp⟩
    · try simp at h_8
      cases hp
      simp [Goal, FnEnd, h_4, h_8]
    · try simp at h_8
      cases hp
      simp [Goal, FnEnd, h_4, h_8]
theorem pc4 : PC Try.prog 4 C4 := pc_of (g := g4) (ctxOK_of [(12, C12), (13, C13)] rfl ⟨pc12, pc13, trivial⟩) ⟨Try.f4, Try.func4, by kernel_rfl, by kernel_rfl⟩ fun x y h => w4 h

noncomputable def C15 : List AV → Option AV := specP (X := (List Int) × Int × Unit) fun x => laws_szIntS x.1 x.2.1
theorem C15_eq {a_ left} {y} (h : laws_szIntS a_ left = some y) : C15 [av .shr a_, av .shr left] = some (Res.res y) := specP_eq (X := (List Int) × Int × Unit) (F := fun x => laws_szIntS x.1 x.2.1) (x := (a_, left, ())) h
noncomputable def g15 : Cfg := { P := Try.prog, take := [], keep := [], gho := [], ctx := [] }
@[simp] theorem g15_P : g15.P = Try.prog := rfl
@[simp] theorem g15_t : g15.take = [] := rfl
@[simp] theorem g15_g : g15.gho = [] := rfl
@[simp] theorem g15_r : g15.ro = [] := rfl
@[simp] theorem g15_w : g15.away = [] ∧ g15.give = [] ∧ g15.octx = [] := by rw [g15]; exact ⟨rfl, rfl, rfl⟩
set_option maxHeartbeats 4000000 in
set_option maxRecDepth 100000 in
theorem w15 {a_ left} {y} (hp : laws_szIntS a_ left = some y) : ∃ m, callo g15 0 15 [av .shr a_, av .shr left] mem0 = some (Res.res y, m) := by
  refine start_fn (Try.f15.body.getD .skip) [.tmp 4] rfl rfl Try.func15 (by kernel_rfl) (by kernel_rfl) (by simp [Try.ntmps15]) rfl ?_
  unfold laws_szIntS at hp
  simp [Try.f15]
  rcases cond_cases hp with ⟨h_1, hp⟩ | ⟨h_1, hp⟩
  · try simp at h_1
    cases hp
    simp [Goal, FnEnd, h_1]
  · try simp at h_1
    cases hp
    simp [Goal, FnEnd, h_1]
theorem pc15 : PC Try.prog 15 C15 := pc_of (g := g15) (ctxOK_of [] rfl trivial) ⟨Try.f15, Try.func15, by kernel_rfl, by kernel_rfl⟩ fun x y h => w15 h

noncomputable def C14 : List AV → Option AV := specP (X := THeap × Int × Unit) fun x => laws_szHeap x.1 x.2.1
theorem C14_eq {a_ left} {y} (h : laws_szHeap a_ left = some y) : C14 [av .shr a_, av .shr left] = some (Res.res y) := specP_eq (X := THeap × Int × Unit) (F := fun x => laws_szHeap x.1 x.2.1) (x := (a_, left, ())) h
noncomputable def g14 : Cfg := { P := Try.prog, take := [], keep := [], gho := [], ctx := [(15, C15)] }
@[simp] theorem g14_P : g14.P = Try.prog := rfl
@[simp] theorem g14_t : g14.take = [] := rfl
@[simp] theorem g14_g : g14.gho = [] := rfl
@[simp] theorem g14_r : g14.ro = [] := rfl
@[simp] theorem g14_w : g14.away = [] ∧ g14.give = [] ∧ g14.octx = [] := by rw [g14]; exact ⟨rfl, rfl, rfl⟩
@[simp] theorem g14_15 : lookN 15 g14.ctx = some C15 := rfl
set_option maxHeartbeats 4000000 in
set_option maxRecDepth 100000 in
theorem w14 {a_ left} {y} (hp : laws_szHeap a_ left = some y) : ∃ m, callo g14 0 14 [av .shr a_, av .shr left] mem0 = some (Res.res y, m) := by
  refine start_fn (Try.f14.body.getD .skip) [.tmp 4] rfl rfl Try.func14 (by kernel_rfl) (by kernel_rfl) (by simp [Try.ntmps14]) rfl ?_
  unfold laws_szHeap at hp
  obtain ⟨y_1, h_2, hp⟩ := bind_some hp
  have c_3 := C15_eq h_2
  simp at c_3
  simp [Try.f14, c_3]
  rcases cond_cases hp with ⟨h_4, hp⟩ | ⟨h_4, hp⟩
  · try simp at h_4
    cases hp
    simp [Goal, FnEnd, h_4]
  · try simp at h_4
    obtain ⟨y_5, h_6, hp⟩ := bind_some hp
    have c_7 := C15_eq h_6
    simp at c_7
    try simp [h_4, c_7]
    rcases cond_cases hp with ⟨h_8, hp⟩ | ⟨h_8, hp⟩
    · try simp at h_8
      cases hp
      simp [Goal, FnEnd, h_4, h_8]
    · try simp at h_8
      cases hp
      simp [Goal, FnEnd, h_4, h_8]
theorem pc14 : PC Try.prog 14 C14 := pc_of (g := g14) (ctxOK_of [(15, C15)] rfl ⟨pc15, trivial⟩) ⟨Try.f14, Try.func14, by kernel_rfl, by kernel_rfl⟩ fun x y h => w14 h

noncomputable def C5 : List AV → Option AV := specP (X := TFailure × Int × Unit) fun x => laws_szFailure x.1 x.2.1
theorem C5_eq {a_ left} {y} (h : laws_szFailure a_ left = some y) : C5 [av .shr a_, av .shr left] = some (Res.res y) := specP_eq (X := TFailure × Int × Unit) (F := fun x => laws_szFailure x.1 x.2.1) (x := (a_, left, ())) h
noncomputable def g5 : Cfg := { P := Try.prog, take := [], keep := [], gho := [], ctx := [(14, C14), (15, C15)] }
@[simp] theorem g5_P : g5.P = Try.prog := rfl
@[simp] theorem g5_t : g5.take = [] := rfl
@[simp] theorem g5_g : g5.gho = [] := rfl
@[simp] theorem g5_r : g5.ro = [] := rfl
@[simp] theorem g5_w : g5.away = [] ∧ g5.give = [] ∧ g5.octx = [] := by rw [g5]; exact ⟨rfl, rfl, rfl⟩
@[simp] theorem g5_14 : lookN 14 g5.ctx = some C14 := rfl
@[simp] theorem g5_15 : lookN 15 g5.ctx = some C15 := rfl
set_option maxHeartbeats 4000000 in
set_option maxRecDepth 100000 in
theorem w5 {a_ left} {y} (hp : laws_szFailure a_ left = some y) : ∃ m, callo g5 0 5 [av .shr a_, av .shr left] mem0 = some (Res.res y, m) := by
  refine start_fn (Try.f5.body.getD .skip) [.tmp 4] rfl rfl Try.func5 (by kernel_rfl) (by kernel_rfl) (by simp [Try.ntmps5]) rfl ?_
  unfold laws_szFailure at hp
  obtain ⟨y_1, h_2, hp⟩ := bind_some hp
  have c_3 := C14_eq h_2
  simp at c_3
  simp [Try.f5, c_3]
  rcases cond_cases hp with ⟨h_4, hp⟩ | ⟨h_4, hp⟩
  · try simp at h_4
    cases hp
    simp [Goal, FnEnd, h_4]
  · try simp at h_4
    obtain ⟨y_5, h_6, hp⟩ := bind_some hp
    have c_7 := C15_eq h_6
    simp at c_7
    try simp [h_4, c_7]
    rcases cond_cases hp with ⟨h_8, hp⟩ | ⟨h_8, hp⟩
    · try simp at h_8
      cases hp
      simp [Goal, FnEnd, h_4, h_8]
    · try simp at h_8
      cases hp
      simp [Goal, FnEnd, h_4, h_8]
theorem pc5 : PC Try.prog 5 C5 := pc_of (g := g5) (ctxOK_of [(14, C14), (15, C15)] rfl ⟨pc14, pc15, trivial⟩) ⟨Try.f5, Try.func5, by kernel_rfl, by kernel_rfl⟩ fun x y h => w5 h

noncomputable def C18 : List AV → Option AV := specP (X := (List ByteArray) × Unit) fun x => laws_toStringS x.1
theorem C18_eq {a_} {y} (h : laws_toStringS a_ = some y) : C18 [av .shr a_] = some (Res.res y) := specP_eq (X := (List ByteArray) × Unit) (F := fun x => laws_toStringS x.1) (x := (a_, ())) h
noncomputable def g18 : Cfg := { P := Try.prog, take := [(18, 7)], keep := [((18, 3), { hd := [0, 3, 4], bx := [], ex := [3], rt := [2] })], gho := [((18, atEnd), [.frz (.sl 2 0)])], ctx := [] }
@[simp] theorem g18_P : g18.P = Try.prog := rfl
@[simp] theorem g18_t : g18.take = [(18, 7)] := rfl
@[simp] theorem g18_g : g18.gho = [((18, atEnd), [.frz (.sl 2 0)])] := rfl
@[simp] theorem g18_r : g18.ro = [] := rfl
@[simp] theorem g18_w : g18.away = [] ∧ g18.give = [] ∧ g18.octx = [] := by rw [g18]; exact ⟨rfl, rfl, rfl⟩
set_option maxHeartbeats 4000000 in
set_option maxRecDepth 100000 in
theorem w18 {a_} {y} (hp : laws_toStringS a_ = some y) : ∃ m, callo g18 0 18 [av .shr a_] mem0 = some (Res.res y, m) := by
  refine start_fn (Try.f18.body.getD .skip) [.tmp 2] rfl rfl Try.func18 (by kernel_rfl) (by kernel_rfl) (by simp [Try.ntmps18]) rfl ?_
  unfold laws_toStringS at hp
  obtain ⟨_, h_1, hp⟩ := bind_some hp
  have b_2 := roomI_lo h_1
  have b_3 := roomI_ok h_1
  try simp at b_2
  try simp at b_3
  have r_4 := row_replicate (a_.length : Int).toNat (ByteArray.empty : ByteArray) (by rfl)
  try simp at r_4
  simp [Try.f18, b_2, b_3, r_4]
  obtain ⟨r_27, h_28, hp⟩ := bind_some hp
  obtain ⟨I_7, I_7_⟩ : ∃ I : Int × (List ByteArray) → St → Prop, I = (fun (s_5 : Int × (List ByteArray)) (σ : St) => σ.env 0 = .one (.l .shr a_.length (encL a_)) ∧ σ.env 3 = .one (.bs (1, 7) s_5.2.length 1) ∧ σ.env 4 = .one (.s (.int .i64 s_5.1)) ∧ σ.mem (1, 7) = some (rowC s_5.2) ∧ NoBox [(1, 7)] σ.mem) := ⟨_, rfl⟩
  obtain ⟨X_8, X_8_⟩ : ∃ X : (List ByteArray) → Out → Prop, X = (fun (r_27 : (List ByteArray)) (out : Out) => ∃ σ : St, out = .exit 0 σ ∧ σ.env 3 = .one (.bs (1, 7) r_27.length 1) ∧ σ.mem (1, 7) = some (rowC r_27) ∧ NoBox [(1, 7)] σ.mem) := ⟨_, rfl⟩
  refine loopP ({ hd := [0, 3, 4], bx := [], ex := [3], rt := [2] }) I_7 X_8 h_28 (by exact rfl) ?_ ?_ ?_
  · rw [I_7_]
    refine ⟨?_, ?_, ?_, ?_, NoBox.restrict (by intro k hk hb; simp at hk hb; simp [hk, hb])⟩ <;> simp [restrict_env, restrict_mem]
  · intro s_5 σ_9 a_6 hI hp
    rw [I_7_] at hI
    obtain ⟨q_10, q_11, q_12, q_13, hn_14⟩ := hI
    try simp [q_10, q_11, q_12, q_13]
    rcases cond_cases hp with ⟨h_15, hp⟩ | ⟨h_15, hp⟩
    · try simp at h_15
      obtain ⟨e_16, h_17, hp⟩ := bind_some hp
      have b_18 := at_lo h_17
      have b_19 := at_hi h_17
      try simp at b_18
      try simp at b_19
      have c_20 := seg_at' h_17 0 1 (by decide) (ds := [.sc (.string e_16)]) rfl
      try simp at c_20
      obtain ⟨e_21, h_22, hp⟩ := bind_some hp
      have b_23 := at_lo h_22
      have b_24 := at_hi h_22
      try simp at b_23
      try simp at b_24
      have c_25 := splice_row h_22 0 e_16 [(.s (.string e_16))] (by simp) rfl
      try simp at c_25
      have l_26 := row_room h_22 0 (m := 1) (by decide)
      try simp at l_26
      cases hp
      try simp [q_10, q_11, q_12, q_13, h_15, b_18, b_19, c_20, b_23, b_24, c_25, l_26]
      refine goal_next ?_
      rw [I_7_]
      refine ⟨?_, ?_, ?_, ?_, NoBox.restrict (by intro k hk hb; simp at hk hb; simp [hk, hb, q_10, q_11, q_12, q_13, h_15, b_18, b_19, c_20, b_23, b_24, c_25, l_26, hn_14 k (by simp [hk, hb])])⟩ <;> simp [restrict_env, restrict_mem, q_10, q_11, q_12, q_13, h_15, b_18, b_19, c_20, b_23, b_24, c_25, l_26]
    · try simp at h_15
      cases hp
      try simp [q_10, q_11, q_12, q_13, h_15]
      refine goal_outX ?_
      rw [X_8_]
      refine ⟨_, rfl, ?_, ?_, NoBox.restrict (by intro k hk hb; simp at hk hb; simp [hk, hb, q_10, q_11, q_12, q_13, h_15, hn_14 k (by simp [hk, hb])])⟩ <;> simp [restrict_env, restrict_mem, q_10, q_11, q_12, q_13, h_15]
  · intro out hX
    rw [X_8_] at hX
    obtain ⟨σ_29, rfl, q_30, q_31, hn_32⟩ := hX
    cases hp
    simp [Goal, FnEnd, q_30, q_31]
theorem pc18 : PC Try.prog 18 C18 := pc_of (g := g18) (ctxOK_of [] rfl trivial) ⟨Try.f18, Try.func18, by kernel_rfl, by kernel_rfl⟩ fun x y h => w18 h

noncomputable def C55 : List AV → Option AV := specP (X := TStmt × Unit) fun x => laws_toStmt x.1
theorem C55_eq {a_} {y} (h : laws_toStmt a_ = some y) : C55 [av .shr a_] = some (Res.res y) := specP_eq (X := TStmt × Unit) (F := fun x => laws_toStmt x.1) (x := (a_, ())) h
noncomputable def g55 : Cfg := { P := Try.prog, take := [], keep := [], gho := [], ctx := [] }
@[simp] theorem g55_P : g55.P = Try.prog := rfl
@[simp] theorem g55_t : g55.take = [] := rfl
@[simp] theorem g55_g : g55.gho = [] := rfl
@[simp] theorem g55_r : g55.ro = [] := rfl
@[simp] theorem g55_w : g55.away = [] ∧ g55.give = [] ∧ g55.octx = [] := by rw [g55]; exact ⟨rfl, rfl, rfl⟩
set_option maxHeartbeats 4000000 in
set_option maxRecDepth 100000 in
theorem w55 {a_} {y} (hp : laws_toStmt a_ = some y) : ∃ m, callo g55 0 55 [av .shr a_] mem0 = some (Res.res y, m) := by
  refine start_fn (Try.f55.body.getD .skip) [.cell 2 71] rfl rfl Try.func55 (by kernel_rfl) (by kernel_rfl) (by simp [Try.ntmps55]) rfl ?_
  unfold laws_toStmt at hp
  cases hp
  simp [Try.f55, Goal, FnEnd, retR, rsrc, RSrc.val, nodupR, nodup, tupPart]
theorem pc55 : PC Try.prog 55 C55 := pc_of (g := g55) (ctxOK_of [] rfl trivial) ⟨Try.f55, Try.func55, by kernel_rfl, by kernel_rfl⟩ fun x y h => w55 h

noncomputable def C34 : List AV → Option AV := specP (X := TEdge × Unit) fun x => laws_toEdge x.1
theorem C34_eq {a_} {y} (h : laws_toEdge a_ = some y) : C34 [av .shr a_] = some (Res.res y) := specP_eq (X := TEdge × Unit) (F := fun x => laws_toEdge x.1) (x := (a_, ())) h
noncomputable def g34 : Cfg := { P := Try.prog, take := [], keep := [], gho := [], ctx := [(55, C55)] }
@[simp] theorem g34_P : g34.P = Try.prog := rfl
@[simp] theorem g34_t : g34.take = [] := rfl
@[simp] theorem g34_g : g34.gho = [] := rfl
@[simp] theorem g34_r : g34.ro = [] := rfl
@[simp] theorem g34_w : g34.away = [] ∧ g34.give = [] ∧ g34.octx = [] := by rw [g34]; exact ⟨rfl, rfl, rfl⟩
@[simp] theorem g34_55 : lookN 55 g34.ctx = some C55 := rfl
set_option maxHeartbeats 4000000 in
set_option maxRecDepth 100000 in
theorem w34 {a_} {y} (hp : laws_toEdge a_ = some y) : ∃ m, callo g34 0 34 [av .shr a_] mem0 = some (Res.res y, m) := by
  refine start_fn (Try.f34.body.getD .skip) [.cell 2 73] rfl rfl Try.func34 (by kernel_rfl) (by kernel_rfl) (by simp [Try.ntmps34]) rfl ?_
  unfold laws_toEdge at hp
  obtain ⟨y_1, h_2, hp⟩ := bind_some hp
  have c_3 := C55_eq h_2
  simp at c_3
  cases hp
  simp [Try.f34, Goal, FnEnd, retR, rsrc, RSrc.val, nodupR, nodup, tupPart, c_3]
theorem pc34 : PC Try.prog 34 C34 := pc_of (g := g34) (ctxOK_of [(55, C55)] rfl ⟨pc55, trivial⟩) ⟨Try.f34, Try.func34, by kernel_rfl, by kernel_rfl⟩ fun x y h => w34 h

noncomputable def C19 : List AV → Option AV := specP (X := (List TEdge) × Unit) fun x => laws_toEdgeS x.1
theorem C19_eq {a_} {y} (h : laws_toEdgeS a_ = some y) : C19 [av .shr a_] = some (Res.res y) := specP_eq (X := (List TEdge) × Unit) (F := fun x => laws_toEdgeS x.1) (x := (a_, ())) h
noncomputable def g19 : Cfg := { P := Try.prog, take := [(19, 7)], keep := [((19, 3), { hd := [0, 3, 4], bx := [], ex := [3], rt := [2] })], gho := [((19, atEnd), [.frz (.sl 2 0)])], ctx := [(34, C34)] }
@[simp] theorem g19_P : g19.P = Try.prog := rfl
@[simp] theorem g19_t : g19.take = [(19, 7)] := rfl
@[simp] theorem g19_g : g19.gho = [((19, atEnd), [.frz (.sl 2 0)])] := rfl
@[simp] theorem g19_r : g19.ro = [] := rfl
@[simp] theorem g19_w : g19.away = [] ∧ g19.give = [] ∧ g19.octx = [] := by rw [g19]; exact ⟨rfl, rfl, rfl⟩
@[simp] theorem g19_34 : lookN 34 g19.ctx = some C34 := rfl
set_option maxHeartbeats 4000000 in
set_option maxRecDepth 100000 in
theorem w19 {a_} {y} (hp : laws_toEdgeS a_ = some y) : ∃ m, callo g19 0 19 [av .shr a_] mem0 = some (Res.res y, m) := by
  refine start_fn (Try.f19.body.getD .skip) [.tmp 2] rfl rfl Try.func19 (by kernel_rfl) (by kernel_rfl) (by simp [Try.ntmps19]) rfl ?_
  unfold laws_toEdgeS at hp
  obtain ⟨_, h_1, hp⟩ := bind_some hp
  have b_2 := roomI_lo h_1
  have b_3 := roomI_ok h_1
  try simp at b_2
  try simp at b_3
  have r_4 := row_replicate (a_.length : Int).toNat ((⟨0, 0, (⟨0, ByteArray.empty, ByteArray.empty⟩ : TStmt)⟩ : TEdge) : TEdge) (by rfl)
  try simp at r_4
  simp [Try.f19, b_2, b_3, r_4]
  obtain ⟨r_30, h_31, hp⟩ := bind_some hp
  obtain ⟨I_7, I_7_⟩ : ∃ I : Int × (List TEdge) → St → Prop, I = (fun (s_5 : Int × (List TEdge)) (σ : St) => σ.env 0 = .one (.l .shr a_.length (encL a_)) ∧ σ.env 3 = .one (.bs (1, 7) s_5.2.length 5) ∧ σ.env 4 = .one (.s (.int .i64 s_5.1)) ∧ σ.mem (1, 7) = some (rowC s_5.2) ∧ NoBox [(1, 7)] σ.mem) := ⟨_, rfl⟩
  obtain ⟨X_8, X_8_⟩ : ∃ X : (List TEdge) → Out → Prop, X = (fun (r_30 : (List TEdge)) (out : Out) => ∃ σ : St, out = .exit 0 σ ∧ σ.env 3 = .one (.bs (1, 7) r_30.length 5) ∧ σ.mem (1, 7) = some (rowC r_30) ∧ NoBox [(1, 7)] σ.mem) := ⟨_, rfl⟩
  refine loopP ({ hd := [0, 3, 4], bx := [], ex := [3], rt := [2] }) I_7 X_8 h_31 (by exact rfl) ?_ ?_ ?_
  · rw [I_7_]
    refine ⟨?_, ?_, ?_, ?_, NoBox.restrict (by intro k hk hb; simp at hk hb; simp [hk, hb])⟩ <;> simp [restrict_env, restrict_mem]
  · intro s_5 σ_9 a_6 hI hp
    rw [I_7_] at hI
    obtain ⟨q_10, q_11, q_12, q_13, hn_14⟩ := hI
    try simp [q_10, q_11, q_12, q_13]
    rcases cond_cases hp with ⟨h_15, hp⟩ | ⟨h_15, hp⟩
    · try simp at h_15
      obtain ⟨e_16, h_17, hp⟩ := bind_some hp
      have b_18 := at_lo h_17
      have b_19 := at_hi h_17
      try simp at b_18
      try simp at b_19
      have c_20 := seg_at' h_17 0 5 (by decide) (ds := [.sc (.int .i64 e_16.from_), .sc (.int .i64 e_16.to_), .sc (.int .i64 e_16.stmt.kind), .sc (.string e_16.stmt.a), .sc (.string e_16.stmt.b)]) rfl
      try simp at c_20
      obtain ⟨y_21, h_22, hp⟩ := bind_some hp
      have c_23 := C34_eq h_22
      simp at c_23
      obtain ⟨e_24, h_25, hp⟩ := bind_some hp
      have b_26 := at_lo h_25
      have b_27 := at_hi h_25
      try simp at b_26
      try simp at b_27
      have c_28 := splice_row h_25 0 y_21 [(.s (.int .i64 y_21.from_)), (.s (.int .i64 y_21.to_)), (.s (.int .i64 y_21.stmt.kind)), (.s (.string y_21.stmt.a)), (.s (.string y_21.stmt.b))] (by simp) rfl
      try simp at c_28
      have l_29 := row_room h_25 0 (m := 5) (by decide)
      try simp at l_29
      cases hp
      try simp [q_10, q_11, q_12, q_13, h_15, b_18, b_19, c_20, c_23, b_26, b_27, c_28, l_29]
      refine goal_next ?_
      rw [I_7_]
      refine ⟨?_, ?_, ?_, ?_, NoBox.restrict (by intro k hk hb; simp at hk hb; simp [hk, hb, q_10, q_11, q_12, q_13, h_15, b_18, b_19, c_20, c_23, b_26, b_27, c_28, l_29, hn_14 k (by simp [hk, hb])])⟩ <;> simp [restrict_env, restrict_mem, q_10, q_11, q_12, q_13, h_15, b_18, b_19, c_20, c_23, b_26, b_27, c_28, l_29]
    · try simp at h_15
      cases hp
      try simp [q_10, q_11, q_12, q_13, h_15]
      refine goal_outX ?_
      rw [X_8_]
      refine ⟨_, rfl, ?_, ?_, NoBox.restrict (by intro k hk hb; simp at hk hb; simp [hk, hb, q_10, q_11, q_12, q_13, h_15, hn_14 k (by simp [hk, hb])])⟩ <;> simp [restrict_env, restrict_mem, q_10, q_11, q_12, q_13, h_15]
  · intro out hX
    rw [X_8_] at hX
    obtain ⟨σ_32, rfl, q_33, q_34, hn_35⟩ := hX
    cases hp
    simp [Goal, FnEnd, q_33, q_34]
theorem pc19 : PC Try.prog 19 C19 := pc_of (g := g19) (ctxOK_of [(34, C34)] rfl ⟨pc34, trivial⟩) ⟨Try.f19, Try.func19, by kernel_rfl, by kernel_rfl⟩ fun x y h => w19 h

noncomputable def C7 : List AV → Option AV := specP (X := TProgram × Unit) fun x => laws_toProgram x.1
theorem C7_eq {a_} {y} (h : laws_toProgram a_ = some y) : C7 [av .shr a_] = some (Res.res y) := specP_eq (X := TProgram × Unit) (F := fun x => laws_toProgram x.1) (x := (a_, ())) h
noncomputable def g7 : Cfg := { P := Try.prog, take := [(7, 15)], keep := [], gho := [], ctx := [(18, C18), (19, C19)] }
@[simp] theorem g7_P : g7.P = Try.prog := rfl
@[simp] theorem g7_t : g7.take = [(7, 15)] := rfl
@[simp] theorem g7_g : g7.gho = [] := rfl
@[simp] theorem g7_r : g7.ro = [] := rfl
@[simp] theorem g7_w : g7.away = [] ∧ g7.give = [] ∧ g7.octx = [] := by rw [g7]; exact ⟨rfl, rfl, rfl⟩
@[simp] theorem g7_18 : lookN 18 g7.ctx = some C18 := rfl
@[simp] theorem g7_19 : lookN 19 g7.ctx = some C19 := rfl
set_option maxHeartbeats 4000000 in
set_option maxRecDepth 100000 in
theorem w7 {a_} {y} (hp : laws_toProgram a_ = some y) : ∃ m, callo g7 0 7 [av .shr a_] mem0 = some (Res.res y, m) := by
  refine start_fn (Try.f7.body.getD .skip) [.cell 2 36] rfl rfl Try.func7 (by kernel_rfl) (by kernel_rfl) (by simp [Try.ntmps7]) rfl ?_
  unfold laws_toProgram at hp
  obtain ⟨y_1, h_2, hp⟩ := bind_some hp
  have c_3 := C18_eq h_2
  simp at c_3
  obtain ⟨y_4, h_5, hp⟩ := bind_some hp
  have c_6 := C19_eq h_5
  simp at c_6
  cases hp
  simp [Try.f7, Goal, FnEnd, retR, rsrc, RSrc.val, nodupR, nodup, tupPart, c_3, c_6]
theorem pc7 : PC Try.prog 7 C7 := pc_of (g := g7) (ctxOK_of [(18, C18), (19, C19)] rfl ⟨pc18, pc19, trivial⟩) ⟨Try.f7, Try.func7, by kernel_rfl, by kernel_rfl⟩ fun x y h => w7 h

noncomputable def C21 : List AV → Option AV := specP (X := (List Int) × Unit) fun x => laws_toIntS x.1
theorem C21_eq {a_} {y} (h : laws_toIntS a_ = some y) : C21 [av .shr a_] = some (Res.res y) := specP_eq (X := (List Int) × Unit) (F := fun x => laws_toIntS x.1) (x := (a_, ())) h
noncomputable def g21 : Cfg := { P := Try.prog, take := [(21, 7)], keep := [((21, 3), { hd := [0, 3, 4], bx := [], ex := [3], rt := [2] })], gho := [((21, atEnd), [.frz (.sl 2 0)])], ctx := [] }
@[simp] theorem g21_P : g21.P = Try.prog := rfl
@[simp] theorem g21_t : g21.take = [(21, 7)] := rfl
@[simp] theorem g21_g : g21.gho = [((21, atEnd), [.frz (.sl 2 0)])] := rfl
@[simp] theorem g21_r : g21.ro = [] := rfl
@[simp] theorem g21_w : g21.away = [] ∧ g21.give = [] ∧ g21.octx = [] := by rw [g21]; exact ⟨rfl, rfl, rfl⟩
set_option maxHeartbeats 4000000 in
set_option maxRecDepth 100000 in
theorem w21 {a_} {y} (hp : laws_toIntS a_ = some y) : ∃ m, callo g21 0 21 [av .shr a_] mem0 = some (Res.res y, m) := by
  refine start_fn (Try.f21.body.getD .skip) [.tmp 2] rfl rfl Try.func21 (by kernel_rfl) (by kernel_rfl) (by simp [Try.ntmps21]) rfl ?_
  unfold laws_toIntS at hp
  obtain ⟨_, h_1, hp⟩ := bind_some hp
  have b_2 := roomI_lo h_1
  have b_3 := roomI_ok h_1
  try simp at b_2
  try simp at b_3
  have r_4 := row_replicate (a_.length : Int).toNat (0 : Int) (by rfl)
  try simp at r_4
  simp [Try.f21, b_2, b_3, r_4]
  obtain ⟨r_27, h_28, hp⟩ := bind_some hp
  obtain ⟨I_7, I_7_⟩ : ∃ I : Int × (List Int) → St → Prop, I = (fun (s_5 : Int × (List Int)) (σ : St) => σ.env 0 = .one (.l .shr a_.length (encL a_)) ∧ σ.env 3 = .one (.bs (1, 7) s_5.2.length 1) ∧ σ.env 4 = .one (.s (.int .i64 s_5.1)) ∧ σ.mem (1, 7) = some (rowC s_5.2) ∧ NoBox [(1, 7)] σ.mem) := ⟨_, rfl⟩
  obtain ⟨X_8, X_8_⟩ : ∃ X : (List Int) → Out → Prop, X = (fun (r_27 : (List Int)) (out : Out) => ∃ σ : St, out = .exit 0 σ ∧ σ.env 3 = .one (.bs (1, 7) r_27.length 1) ∧ σ.mem (1, 7) = some (rowC r_27) ∧ NoBox [(1, 7)] σ.mem) := ⟨_, rfl⟩
  refine loopP ({ hd := [0, 3, 4], bx := [], ex := [3], rt := [2] }) I_7 X_8 h_28 (by exact rfl) ?_ ?_ ?_
  · rw [I_7_]
    refine ⟨?_, ?_, ?_, ?_, NoBox.restrict (by intro k hk hb; simp at hk hb; simp [hk, hb])⟩ <;> simp [restrict_env, restrict_mem]
  · intro s_5 σ_9 a_6 hI hp
    rw [I_7_] at hI
    obtain ⟨q_10, q_11, q_12, q_13, hn_14⟩ := hI
    try simp [q_10, q_11, q_12, q_13]
    rcases cond_cases hp with ⟨h_15, hp⟩ | ⟨h_15, hp⟩
    · try simp at h_15
      obtain ⟨e_16, h_17, hp⟩ := bind_some hp
      have b_18 := at_lo h_17
      have b_19 := at_hi h_17
      try simp at b_18
      try simp at b_19
      have c_20 := seg_at' h_17 0 1 (by decide) (ds := [.sc (.int .i64 e_16)]) rfl
      try simp at c_20
      obtain ⟨e_21, h_22, hp⟩ := bind_some hp
      have b_23 := at_lo h_22
      have b_24 := at_hi h_22
      try simp at b_23
      try simp at b_24
      have c_25 := splice_row h_22 0 e_16 [(.s (.int .i64 e_16))] (by simp) rfl
      try simp at c_25
      have l_26 := row_room h_22 0 (m := 1) (by decide)
      try simp at l_26
      cases hp
      try simp [q_10, q_11, q_12, q_13, h_15, b_18, b_19, c_20, b_23, b_24, c_25, l_26]
      refine goal_next ?_
      rw [I_7_]
      refine ⟨?_, ?_, ?_, ?_, NoBox.restrict (by intro k hk hb; simp at hk hb; simp [hk, hb, q_10, q_11, q_12, q_13, h_15, b_18, b_19, c_20, b_23, b_24, c_25, l_26, hn_14 k (by simp [hk, hb])])⟩ <;> simp [restrict_env, restrict_mem, q_10, q_11, q_12, q_13, h_15, b_18, b_19, c_20, b_23, b_24, c_25, l_26]
    · try simp at h_15
      cases hp
      try simp [q_10, q_11, q_12, q_13, h_15]
      refine goal_outX ?_
      rw [X_8_]
      refine ⟨_, rfl, ?_, ?_, NoBox.restrict (by intro k hk hb; simp at hk hb; simp [hk, hb, q_10, q_11, q_12, q_13, h_15, hn_14 k (by simp [hk, hb])])⟩ <;> simp [restrict_env, restrict_mem, q_10, q_11, q_12, q_13, h_15]
  · intro out hX
    rw [X_8_] at hX
    obtain ⟨σ_29, rfl, q_30, q_31, hn_32⟩ := hX
    cases hp
    simp [Goal, FnEnd, q_30, q_31]
theorem pc21 : PC Try.prog 21 C21 := pc_of (g := g21) (ctxOK_of [] rfl trivial) ⟨Try.f21, Try.func21, by kernel_rfl, by kernel_rfl⟩ fun x y h => w21 h

noncomputable def C20 : List AV → Option AV := specP (X := THeap × Unit) fun x => laws_toHeap x.1
theorem C20_eq {a_} {y} (h : laws_toHeap a_ = some y) : C20 [av .shr a_] = some (Res.res y) := specP_eq (X := THeap × Unit) (F := fun x => laws_toHeap x.1) (x := (a_, ())) h
noncomputable def g20 : Cfg := { P := Try.prog, take := [(20, 12)], keep := [], gho := [], ctx := [(21, C21)] }
@[simp] theorem g20_P : g20.P = Try.prog := rfl
@[simp] theorem g20_t : g20.take = [(20, 12)] := rfl
@[simp] theorem g20_g : g20.gho = [] := rfl
@[simp] theorem g20_r : g20.ro = [] := rfl
@[simp] theorem g20_w : g20.away = [] ∧ g20.give = [] ∧ g20.octx = [] := by rw [g20]; exact ⟨rfl, rfl, rfl⟩
@[simp] theorem g20_21 : lookN 21 g20.ctx = some C21 := rfl
set_option maxHeartbeats 4000000 in
set_option maxRecDepth 100000 in
theorem w20 {a_} {y} (hp : laws_toHeap a_ = some y) : ∃ m, callo g20 0 20 [av .shr a_] mem0 = some (Res.res y, m) := by
  refine start_fn (Try.f20.body.getD .skip) [.cell 2 38] rfl rfl Try.func20 (by kernel_rfl) (by kernel_rfl) (by simp [Try.ntmps20]) rfl ?_
  unfold laws_toHeap at hp
  obtain ⟨y_1, h_2, hp⟩ := bind_some hp
  have c_3 := C21_eq h_2
  simp at c_3
  obtain ⟨y_4, h_5, hp⟩ := bind_some hp
  have c_6 := C21_eq h_5
  simp at c_6
  cases hp
  simp [Try.f20, Goal, FnEnd, retR, rsrc, RSrc.val, nodupR, nodup, tupPart, c_3, c_6]
theorem pc20 : PC Try.prog 20 C20 := pc_of (g := g20) (ctxOK_of [(21, C21)] rfl ⟨pc21, trivial⟩) ⟨Try.f20, Try.func20, by kernel_rfl, by kernel_rfl⟩ fun x y h => w20 h

noncomputable def C8 : List AV → Option AV := specP (X := TFailure × Unit) fun x => laws_toFailure x.1
theorem C8_eq {a_} {y} (h : laws_toFailure a_ = some y) : C8 [av .shr a_] = some (Res.res y) := specP_eq (X := TFailure × Unit) (F := fun x => laws_toFailure x.1) (x := (a_, ())) h
noncomputable def g8 : Cfg := { P := Try.prog, take := [(8, 15)], keep := [], gho := [], ctx := [(20, C20), (21, C21)] }
@[simp] theorem g8_P : g8.P = Try.prog := rfl
@[simp] theorem g8_t : g8.take = [(8, 15)] := rfl
@[simp] theorem g8_g : g8.gho = [] := rfl
@[simp] theorem g8_r : g8.ro = [] := rfl
@[simp] theorem g8_w : g8.away = [] ∧ g8.give = [] ∧ g8.octx = [] := by rw [g8]; exact ⟨rfl, rfl, rfl⟩
@[simp] theorem g8_20 : lookN 20 g8.ctx = some C20 := rfl
@[simp] theorem g8_21 : lookN 21 g8.ctx = some C21 := rfl
set_option maxHeartbeats 4000000 in
set_option maxRecDepth 100000 in
theorem w8 {a_} {y} (hp : laws_toFailure a_ = some y) : ∃ m, callo g8 0 8 [av .shr a_] mem0 = some (Res.res y, m) := by
  refine start_fn (Try.f8.body.getD .skip) [.cell 2 40] rfl rfl Try.func8 (by kernel_rfl) (by kernel_rfl) (by simp [Try.ntmps8]) rfl ?_
  unfold laws_toFailure at hp
  obtain ⟨y_1, h_2, hp⟩ := bind_some hp
  have c_3 := C20_eq h_2
  simp at c_3
  obtain ⟨y_4, h_5, hp⟩ := bind_some hp
  have c_6 := C21_eq h_5
  simp at c_6
  cases hp
  simp [Try.f8, Goal, FnEnd, retR, rsrc, RSrc.val, nodupR, nodup, tupPart, c_3, c_6]
theorem pc8 : PC Try.prog 8 C8 := pc_of (g := g8) (ctxOK_of [(20, C20), (21, C21)] rfl ⟨pc20, pc21, trivial⟩) ⟨Try.f8, Try.func8, by kernel_rfl, by kernel_rfl⟩ fun x y h => w8 h

noncomputable def C32 : List AV → Option AV := specP (X := Int × Int × Int × Unit) fun x => spec_l1In x.1 x.2.1 x.2.2.1
theorem C32_eq {x_ lo hi} {y} (h : spec_l1In x_ lo hi = some y) : C32 [av .shr x_, av .shr lo, av .shr hi] = some (Res.res y) := specP_eq (X := Int × Int × Int × Unit) (F := fun x => spec_l1In x.1 x.2.1 x.2.2.1) (x := (x_, lo, hi, ())) h
noncomputable def g32 : Cfg := { P := Try.prog, take := [], keep := [], gho := [], ctx := [] }
@[simp] theorem g32_P : g32.P = Try.prog := rfl
@[simp] theorem g32_t : g32.take = [] := rfl
@[simp] theorem g32_g : g32.gho = [] := rfl
@[simp] theorem g32_r : g32.ro = [] := rfl
@[simp] theorem g32_w : g32.away = [] ∧ g32.give = [] ∧ g32.octx = [] := by rw [g32]; exact ⟨rfl, rfl, rfl⟩
set_option maxHeartbeats 4000000 in
set_option maxRecDepth 100000 in
theorem w32 {x_ lo hi} {y} (hp : spec_l1In x_ lo hi = some y) : ∃ m, callo g32 0 32 [av .shr x_, av .shr lo, av .shr hi] mem0 = some (Res.res y, m) := by
  refine start_fn (Try.f32.body.getD .skip) [.tmp 6] rfl rfl Try.func32 (by kernel_rfl) (by kernel_rfl) (by simp [Try.ntmps32]) rfl ?_
  unfold spec_l1In at hp
  simp [Try.f32]
  rcases cond_cases hp with ⟨h_1, hp⟩ | ⟨h_1, hp⟩
  · try simp at h_1
    cases hp
    simp [Goal, FnEnd, h_1]
  · try simp at h_1
    cases hp
    simp [Goal, FnEnd, h_1]
theorem pc32 : PC Try.prog 32 C32 := pc_of (g := g32) (ctxOK_of [] rfl trivial) ⟨Try.f32, Try.func32, by kernel_rfl, by kernel_rfl⟩ fun x y h => w32 h

noncomputable def C76 : List AV → Option AV := specP (X := Int × Unit) fun x => spec_NamesOf x.1
theorem C76_eq {kind} {y} (h : spec_NamesOf kind = some y) : C76 [av .shr kind] = some (Res.res y) := specP_eq (X := Int × Unit) (F := fun x => spec_NamesOf x.1) (x := (kind, ())) h
noncomputable def g76 : Cfg := { P := Try.prog, take := [], keep := [], gho := [], ctx := [] }
@[simp] theorem g76_P : g76.P = Try.prog := rfl
@[simp] theorem g76_t : g76.take = [] := rfl
@[simp] theorem g76_g : g76.gho = [] := rfl
@[simp] theorem g76_r : g76.ro = [] := rfl
@[simp] theorem g76_w : g76.away = [] ∧ g76.give = [] ∧ g76.octx = [] := by rw [g76]; exact ⟨rfl, rfl, rfl⟩
set_option maxHeartbeats 4000000 in
set_option maxRecDepth 100000 in
theorem w76 {kind} {y} (hp : spec_NamesOf kind = some y) : ∃ m, callo g76 0 76 [av .shr kind] mem0 = some (Res.res y, m) := by
  refine start_fn (Try.f76.body.getD .skip) [.tmp 2] rfl rfl Try.func76 (by kernel_rfl) (by kernel_rfl) (by simp [Try.ntmps76]) rfl ?_
  unfold spec_NamesOf at hp
  simp [Try.f76]
  rcases cond_cases hp with ⟨h_1, hp⟩ | ⟨h_1, hp⟩
  · try simp at h_1
    cases hp
    simp [Goal, FnEnd, h_1]
  · try simp at h_1
    try simp [h_1]
    rcases cond_cases hp with ⟨h_2, hp⟩ | ⟨h_2, hp⟩
    · try simp at h_2
      cases hp
      simp [Goal, FnEnd, h_1, h_2]
    · try simp at h_2
      try simp [h_1, h_2]
      rcases cond_cases hp with ⟨h_3, hp⟩ | ⟨h_3, hp⟩
      · try simp at h_3
        cases hp
        simp [Goal, FnEnd, h_1, h_2, h_3]
      · try simp at h_3
        try simp [h_1, h_2, h_3]
        rcases cond_cases hp with ⟨h_4, hp⟩ | ⟨h_4, hp⟩
        · try simp at h_4
          cases hp
          simp [Goal, FnEnd, h_1, h_2, h_3, h_4]
        · try simp at h_4
          try simp [h_1, h_2, h_3, h_4]
          rcases cond_cases hp with ⟨h_5, hp⟩ | ⟨h_5, hp⟩
          · try simp at h_5
            cases hp
            simp [Goal, FnEnd, h_1, h_2, h_3, h_4, h_5]
          · try simp at h_5
            try simp [h_1, h_2, h_3, h_4, h_5]
            rcases cond_cases hp with ⟨h_6, hp⟩ | ⟨h_6, hp⟩
            · try simp at h_6
              cases hp
              simp [Goal, FnEnd, h_1, h_2, h_3, h_4, h_5, h_6]
            · try simp at h_6
              try simp [h_1, h_2, h_3, h_4, h_5, h_6]
              rcases cond_cases hp with ⟨h_7, hp⟩ | ⟨h_7, hp⟩
              · try simp at h_7
                cases hp
                simp [Goal, FnEnd, h_1, h_2, h_3, h_4, h_5, h_6, h_7]
              · try simp at h_7
                try simp [h_1, h_2, h_3, h_4, h_5, h_6, h_7]
                rcases cond_cases hp with ⟨h_8, hp⟩ | ⟨h_8, hp⟩
                · try simp at h_8
                  cases hp
                  simp [Goal, FnEnd, h_1, h_2, h_3, h_4, h_5, h_6, h_7, h_8]
                · try simp at h_8
                  try simp [h_1, h_2, h_3, h_4, h_5, h_6, h_7, h_8]
                  rcases cond_cases hp with ⟨h_9, hp⟩ | ⟨h_9, hp⟩
                  · try simp at h_9
                    cases hp
                    simp [Goal, FnEnd, h_1, h_2, h_3, h_4, h_5, h_6, h_7, h_8, h_9]
                  · try simp at h_9
                    try simp [h_1, h_2, h_3, h_4, h_5, h_6, h_7, h_8, h_9]
                    rcases cond_cases hp with ⟨h_10, hp⟩ | ⟨h_10, hp⟩
                    · try simp at h_10
                      cases hp
                      simp [Goal, FnEnd, h_1, h_2, h_3, h_4, h_5, h_6, h_7, h_8, h_9, h_10]
                    · try simp at h_10
                      try simp [h_1, h_2, h_3, h_4, h_5, h_6, h_7, h_8, h_9, h_10]
                      rcases cond_cases hp with ⟨h_11, hp⟩ | ⟨h_11, hp⟩
                      · try simp at h_11
                        cases hp
                        simp [Goal, FnEnd, h_1, h_2, h_3, h_4, h_5, h_6, h_7, h_8, h_9, h_10, h_11]
                      · try simp at h_11
                        try simp [h_1, h_2, h_3, h_4, h_5, h_6, h_7, h_8, h_9, h_10, h_11]
                        rcases cond_cases hp with ⟨h_12, hp⟩ | ⟨h_12, hp⟩
                        · try simp at h_12
                          cases hp
                          simp [Goal, FnEnd, h_1, h_2, h_3, h_4, h_5, h_6, h_7, h_8, h_9, h_10, h_11, h_12]
                        · try simp at h_12
                          cases hp
                          simp [Goal, FnEnd, h_1, h_2, h_3, h_4, h_5, h_6, h_7, h_8, h_9, h_10, h_11, h_12]
theorem pc76 : PC Try.prog 76 C76 := pc_of (g := g76) (ctxOK_of [] rfl trivial) ⟨Try.f76, Try.func76, by kernel_rfl, by kernel_rfl⟩ fun x y h => w76 h

noncomputable def C77 : List AV → Option AV := specP (X := ByteArray × Unit) fun x => spec_IsName x.1
theorem C77_eq {s} {y} (h : spec_IsName s = some y) : C77 [av .shr s] = some (Res.res y) := specP_eq (X := ByteArray × Unit) (F := fun x => spec_IsName x.1) (x := (s, ())) h
noncomputable def g77 : Cfg := { P := Try.prog, take := [], keep := [((77, 2), { hd := [0, 3], bx := [], ex := [0], rt := [2] })], gho := [], ctx := [(32, C32)] }
@[simp] theorem g77_P : g77.P = Try.prog := rfl
@[simp] theorem g77_t : g77.take = [] := rfl
@[simp] theorem g77_g : g77.gho = [] := rfl
@[simp] theorem g77_r : g77.ro = [] := rfl
@[simp] theorem g77_w : g77.away = [] ∧ g77.give = [] ∧ g77.octx = [] := by rw [g77]; exact ⟨rfl, rfl, rfl⟩
@[simp] theorem g77_32 : lookN 32 g77.ctx = some C32 := rfl
set_option maxHeartbeats 4000000 in
set_option maxRecDepth 100000 in
theorem w77 {s} {y} (hp : spec_IsName s = some y) : ∃ m, callo g77 0 77 [av .shr s] mem0 = some (Res.res y, m) := by
  refine start_fn (Try.f77.body.getD .skip) [.tmp 2] rfl rfl Try.func77 (by kernel_rfl) (by kernel_rfl) (by simp [Try.ntmps77]) rfl ?_
  unfold spec_IsName at hp
  simp [Try.f77]
  obtain ⟨r_16, h_17, hp⟩ := bind_some hp
  obtain ⟨I_3, I_3_⟩ : ∃ I : Int → St → Prop, I = (fun (s_1 : Int) (σ : St) => σ.env 0 = .one (.s (.string s)) ∧ σ.env 3 = .one (.s (.int .i64 s_1)) ∧ σ.mem = mem0) := ⟨_, rfl⟩
  obtain ⟨X_4, X_4_⟩ : ∃ X : ((Unit) ⊕ (Unit)) → Out → Prop, X = (fun (r_16 : (Unit) ⊕ (Unit)) (out : Out) => Sum.elim (fun r_16 => ∃ σ : St, out = .ret σ ∧ σ.env 2 = .one (.s (.bool false)) ∧ σ.mem = mem0) (fun r_16 => ∃ σ : St, out = .exit 0 σ ∧ σ.env 0 = .one (.s (.string s)) ∧ σ.mem = mem0) r_16) := ⟨_, rfl⟩
  refine loopP ({ hd := [0, 3], bx := [], ex := [0], rt := [2] }) I_3 X_4 h_17 (by exact rfl) ?_ ?_ ?_
  · rw [I_3_]
    refine ⟨?_, ?_, ?_⟩ <;> simp [restrict_env, restrict_mem]
  · intro s_1 σ_5 a_2 hI hp
    rw [I_3_] at hI
    obtain ⟨q_6, q_7, q_8⟩ := hI
    try simp [q_6, q_7, q_8]
    rcases cond_cases hp with ⟨h_9, hp⟩ | ⟨h_9, hp⟩
    · try simp at h_9
      obtain ⟨e_10, h_11, hp⟩ := bind_some hp
      have c_12 := idx_str Try.underlying9 h_11
      try simp [q_6, q_7, q_8, h_9, c_12]
      rcases cond_cases hp with ⟨h_13, hp⟩ | ⟨h_13, hp⟩
      · try simp at h_13
        cases hp
        try simp [q_6, q_7, q_8, h_9, h_13]
        refine goal_outR ?_
        rw [X_4_]
        refine ⟨_, rfl, ?_, ?_⟩ <;> simp [restrict_env, restrict_mem, q_6, q_7, q_8, h_9, h_13]
      · try simp at h_13
        obtain ⟨_, h_14, hp⟩ := bind_some hp
        cases Option.some.inj (h_11.symm.trans h_14)
        try simp [q_6, q_7, q_8, h_9, h_13, c_12]
        rcases cond_cases hp with ⟨h_15, hp⟩ | ⟨h_15, hp⟩
        · try simp at h_15
          cases hp
          try simp [q_6, q_7, q_8, h_9, h_13, h_15]
          refine goal_outR ?_
          rw [X_4_]
          refine ⟨_, rfl, ?_, ?_⟩ <;> simp [restrict_env, restrict_mem, q_6, q_7, q_8, h_9, h_13, h_15]
        · try simp at h_15
          cases hp
          try simp [q_6, q_7, q_8, h_9, h_13, h_15]
          refine goal_next ?_
          rw [I_3_]
          refine ⟨?_, ?_, ?_⟩ <;> simp [restrict_env, restrict_mem, q_6, q_7, q_8, h_9, h_13, h_15]
    · try simp at h_9
      cases hp
      try simp [q_6, q_7, q_8, h_9]
      refine goal_outX ?_
      rw [X_4_]
      refine ⟨_, rfl, ?_, ?_⟩ <;> simp [restrict_env, restrict_mem, q_6, q_7, q_8, h_9]
  · intro out hX
    rw [X_4_] at hX
    rcases r_16 with r_16 | r_16
    · simp only [Sum.elim_inl, Sum.elim_inr] at hX hp
      obtain ⟨σ_18, rfl, q_19, q_20⟩ := hX
      cases hp
      simp [Goal, FnEnd, q_19, q_20]
    · simp only [Sum.elim_inl, Sum.elim_inr] at hX hp
      obtain ⟨σ_21, rfl, q_22, q_23⟩ := hX
      obtain ⟨y_24, h_25, hp⟩ := bind_some hp
      have c_26 := C32_eq h_25
      simp at c_26
      cases hp
      simp [Goal, FnEnd, q_22, q_23, c_26]
theorem pc77 : PC Try.prog 77 C77 := pc_of (g := g77) (ctxOK_of [(32, C32)] rfl ⟨pc32, trivial⟩) ⟨Try.f77, Try.func77, by kernel_rfl, by kernel_rfl⟩ fun x y h => w77 h

noncomputable def C48 : List AV → Option AV := specP (X := (List ByteArray) × ByteArray × Unit) fun x => spec_IndexOf x.1 x.2.1
theorem C48_eq {list s} {y} (h : spec_IndexOf list s = some y) : C48 [av .shr list, av .shr s] = some (Res.res y) := specP_eq (X := (List ByteArray) × ByteArray × Unit) (F := fun x => spec_IndexOf x.1 x.2.1) (x := (list, s, ())) h
noncomputable def g48 : Cfg := { P := Try.prog, take := [], keep := [((48, 2), { hd := [0, 1, 5], bx := [], ex := [], rt := [4] })], gho := [], ctx := [] }
@[simp] theorem g48_P : g48.P = Try.prog := rfl
@[simp] theorem g48_t : g48.take = [] := rfl
@[simp] theorem g48_g : g48.gho = [] := rfl
@[simp] theorem g48_r : g48.ro = [] := rfl
@[simp] theorem g48_w : g48.away = [] ∧ g48.give = [] ∧ g48.octx = [] := by rw [g48]; exact ⟨rfl, rfl, rfl⟩
set_option maxHeartbeats 4000000 in
set_option maxRecDepth 100000 in
theorem w48 {list s} {y} (hp : spec_IndexOf list s = some y) : ∃ m, callo g48 0 48 [av .shr list, av .shr s] mem0 = some (Res.res y, m) := by
  refine start_fn (Try.f48.body.getD .skip) [.tmp 4] rfl rfl Try.func48 (by kernel_rfl) (by kernel_rfl) (by simp [Try.ntmps48]) rfl ?_
  unfold spec_IndexOf at hp
  simp [Try.f48]
  obtain ⟨r_17, h_18, hp⟩ := bind_some hp
  obtain ⟨I_3, I_3_⟩ : ∃ I : Int → St → Prop, I = (fun (s_1 : Int) (σ : St) => σ.env 0 = .one (.l .shr list.length (encL list)) ∧ σ.env 1 = .one (.s (.string s)) ∧ σ.env 5 = .one (.s (.int .i64 s_1)) ∧ σ.mem = mem0) := ⟨_, rfl⟩
  obtain ⟨X_4, X_4_⟩ : ∃ X : ((Int) ⊕ (Unit)) → Out → Prop, X = (fun (r_17 : (Int) ⊕ (Unit)) (out : Out) => Sum.elim (fun r_17 => ∃ σ : St, out = .ret σ ∧ σ.env 4 = .one (.s (.int .i64 r_17)) ∧ σ.mem = mem0) (fun r_17 => ∃ σ : St, out = .exit 0 σ ∧ σ.mem = mem0) r_17) := ⟨_, rfl⟩
  refine loopP ({ hd := [0, 1, 5], bx := [], ex := [], rt := [4] }) I_3 X_4 h_18 (by exact rfl) ?_ ?_ ?_
  · rw [I_3_]
    refine ⟨?_, ?_, ?_, ?_⟩ <;> simp [restrict_env, restrict_mem]
  · intro s_1 σ_5 a_2 hI hp
    rw [I_3_] at hI
    obtain ⟨q_6, q_7, q_8, q_9⟩ := hI
    try simp [q_6, q_7, q_8, q_9]
    rcases cond_cases hp with ⟨h_10, hp⟩ | ⟨h_10, hp⟩
    · try simp at h_10
      obtain ⟨e_11, h_12, hp⟩ := bind_some hp
      have b_13 := at_lo h_12
      have b_14 := at_hi h_12
      try simp at b_13
      try simp at b_14
      have c_15 := seg_at' h_12 0 1 (by decide) (ds := [.sc (.string e_11)]) rfl
      try simp at c_15
      try simp [q_6, q_7, q_8, q_9, h_10, b_13, b_14, c_15]
      rcases cond_cases hp with ⟨h_16, hp⟩ | ⟨h_16, hp⟩
      · try simp at h_16
        cases hp
        try simp [q_6, q_7, q_8, q_9, h_10, h_16]
        refine goal_outR ?_
        rw [X_4_]
        refine ⟨_, rfl, ?_, ?_⟩ <;> simp [restrict_env, restrict_mem, q_6, q_7, q_8, q_9, h_10, h_16]
      · try simp at h_16
        cases hp
        try simp [q_6, q_7, q_8, q_9, h_10, h_16]
        refine goal_next ?_
        rw [I_3_]
        refine ⟨?_, ?_, ?_, ?_⟩ <;> simp [restrict_env, restrict_mem, q_6, q_7, q_8, q_9, h_10, h_16]
    · try simp at h_10
      cases hp
      try simp [q_6, q_7, q_8, q_9, h_10]
      refine goal_outX ?_
      rw [X_4_]
      exact ⟨_, rfl, by simp [restrict_mem, q_6, q_7, q_8, q_9, h_10]⟩
  · intro out hX
    rw [X_4_] at hX
    rcases r_17 with r_17 | r_17
    · simp only [Sum.elim_inl, Sum.elim_inr] at hX hp
      obtain ⟨σ_19, rfl, q_20, q_21⟩ := hX
      cases hp
      simp [Goal, FnEnd, q_20, q_21]
    · simp only [Sum.elim_inl, Sum.elim_inr] at hX hp
      obtain ⟨σ_22, rfl, q_23⟩ := hX
      cases hp
      simp [Goal, FnEnd, q_23]
theorem pc48 : PC Try.prog 48 C48 := pc_of (g := g48) (ctxOK_of [] rfl trivial) ⟨Try.f48, Try.func48, by kernel_rfl, by kernel_rfl⟩ fun x y h => w48 h

noncomputable def C43 : List AV → Option AV := specP (X := (List ByteArray) × Unit) fun x => spec_AreVars x.1
theorem C43_eq {list} {y} (h : spec_AreVars list = some y) : C43 [av .shr list] = some (Res.res y) := specP_eq (X := (List ByteArray) × Unit) (F := fun x => spec_AreVars x.1) (x := (list, ())) h
noncomputable def g43 : Cfg := { P := Try.prog, take := [], keep := [((43, 2), { hd := [0, 3], bx := [], ex := [0], rt := [2] })], gho := [], ctx := [(32, C32), (48, C48), (77, C77)] }
@[simp] theorem g43_P : g43.P = Try.prog := rfl
@[simp] theorem g43_t : g43.take = [] := rfl
@[simp] theorem g43_g : g43.gho = [] := rfl
@[simp] theorem g43_r : g43.ro = [] := rfl
@[simp] theorem g43_w : g43.away = [] ∧ g43.give = [] ∧ g43.octx = [] := by rw [g43]; exact ⟨rfl, rfl, rfl⟩
@[simp] theorem g43_32 : lookN 32 g43.ctx = some C32 := rfl
@[simp] theorem g43_48 : lookN 48 g43.ctx = some C48 := rfl
@[simp] theorem g43_77 : lookN 77 g43.ctx = some C77 := rfl
set_option maxHeartbeats 4000000 in
set_option maxRecDepth 100000 in
theorem w43 {list} {y} (hp : spec_AreVars list = some y) : ∃ m, callo g43 0 43 [av .shr list] mem0 = some (Res.res y, m) := by
  refine start_fn (Try.f43.body.getD .skip) [.tmp 2] rfl rfl Try.func43 (by kernel_rfl) (by kernel_rfl) (by simp [Try.ntmps43]) rfl ?_
  unfold spec_AreVars at hp
  simp [Try.f43]
  obtain ⟨r_28, h_29, hp⟩ := bind_some hp
  obtain ⟨I_3, I_3_⟩ : ∃ I : Int → St → Prop, I = (fun (s_1 : Int) (σ : St) => σ.env 0 = .one (.l .shr list.length (encL list)) ∧ σ.env 3 = .one (.s (.int .i64 s_1)) ∧ σ.mem = mem0) := ⟨_, rfl⟩
  obtain ⟨X_4, X_4_⟩ : ∃ X : ((Unit) ⊕ (Unit)) → Out → Prop, X = (fun (r_28 : (Unit) ⊕ (Unit)) (out : Out) => Sum.elim (fun r_28 => ∃ σ : St, out = .ret σ ∧ σ.env 2 = .one (.s (.bool false)) ∧ σ.mem = mem0) (fun r_28 => ∃ σ : St, out = .exit 0 σ ∧ σ.env 0 = .one (.l .shr list.length (encL list)) ∧ σ.mem = mem0) r_28) := ⟨_, rfl⟩
  refine loopP ({ hd := [0, 3], bx := [], ex := [0], rt := [2] }) I_3 X_4 h_29 (by exact rfl) ?_ ?_ ?_
  · rw [I_3_]
    refine ⟨?_, ?_, ?_⟩ <;> simp [restrict_env, restrict_mem]
  · intro s_1 σ_5 a_2 hI hp
    rw [I_3_] at hI
    obtain ⟨q_6, q_7, q_8⟩ := hI
    try simp [q_6, q_7, q_8]
    rcases cond_cases hp with ⟨h_9, hp⟩ | ⟨h_9, hp⟩
    · try simp at h_9
      obtain ⟨e_10, h_11, hp⟩ := bind_some hp
      have b_12 := at_lo h_11
      have b_13 := at_hi h_11
      try simp at b_12
      try simp at b_13
      have c_14 := seg_at' h_11 0 1 (by decide) (ds := [.sc (.string e_10)]) rfl
      try simp at c_14
      obtain ⟨y_15, h_16, hp⟩ := bind_some hp
      have c_17 := C77_eq h_16
      simp at c_17
      try simp [q_6, q_7, q_8, h_9, b_12, b_13, c_14, c_17]
      rcases cond_cases hp with ⟨h_18, hp⟩ | ⟨h_18, hp⟩
      · try simp at h_18
        obtain ⟨e_19, h_20, hp⟩ := bind_some hp
        cases Option.some.inj (h_11.symm.trans h_20)
        have b_21 := at_lo h_11
        have b_22 := at_hi h_11
        try simp at b_21
        try simp at b_22
        have c_23 := seg_at' h_11 0 1 (by decide) (ds := [.sc (.string e_10)]) rfl
        try simp at c_23
        obtain ⟨y_24, h_25, hp⟩ := bind_some hp
        have c_26 := C48_eq h_25
        simp at c_26
        try simp [q_6, q_7, q_8, h_9, h_18, b_21, b_22, c_23, c_26]
        rcases cond_cases hp with ⟨h_27, hp⟩ | ⟨h_27, hp⟩
        · try simp at h_27
          cases hp
          try simp [q_6, q_7, q_8, h_9, h_18, h_27]
          refine goal_outR ?_
          rw [X_4_]
          refine ⟨_, rfl, ?_, ?_⟩ <;> simp [restrict_env, restrict_mem, q_6, q_7, q_8, h_9, h_18, h_27]
        · try simp at h_27
          cases hp
          try simp [q_6, q_7, q_8, h_9, h_18, h_27]
          refine goal_next ?_
          rw [I_3_]
          refine ⟨?_, ?_, ?_⟩ <;> simp [restrict_env, restrict_mem, q_6, q_7, q_8, h_9, h_18, h_27]
      · try simp at h_18
        cases hp
        try simp [q_6, q_7, q_8, h_9, h_18]
        refine goal_outR ?_
        rw [X_4_]
        refine ⟨_, rfl, ?_, ?_⟩ <;> simp [restrict_env, restrict_mem, q_6, q_7, q_8, h_9, h_18]
    · try simp at h_9
      cases hp
      try simp [q_6, q_7, q_8, h_9]
      refine goal_outX ?_
      rw [X_4_]
      refine ⟨_, rfl, ?_, ?_⟩ <;> simp [restrict_env, restrict_mem, q_6, q_7, q_8, h_9]
  · intro out hX
    rw [X_4_] at hX
    rcases r_28 with r_28 | r_28
    · simp only [Sum.elim_inl, Sum.elim_inr] at hX hp
      obtain ⟨σ_30, rfl, q_31, q_32⟩ := hX
      cases hp
      simp [Goal, FnEnd, q_31, q_32]
    · simp only [Sum.elim_inl, Sum.elim_inr] at hX hp
      obtain ⟨σ_33, rfl, q_34, q_35⟩ := hX
      obtain ⟨y_36, h_37, hp⟩ := bind_some hp
      have c_38 := C32_eq h_37
      simp at c_38
      cases hp
      simp [Goal, FnEnd, q_34, q_35, c_38]
theorem pc43 : PC Try.prog 43 C43 := pc_of (g := g43) (ctxOK_of [(32, C32), (48, C48), (77, C77)] rfl ⟨pc32, pc48, pc77, trivial⟩) ⟨Try.f43, Try.func43, by kernel_rfl, by kernel_rfl⟩ fun x y h => w43 h

noncomputable def C42 : List AV → Option AV := specP (X := (List ByteArray) × TStmt × Unit) fun x => spec_IsStmt x.1 x.2.1
theorem C42_eq {vars s} {y} (h : spec_IsStmt vars s = some y) : C42 [av .shr vars, av .shr s] = some (Res.res y) := specP_eq (X := (List ByteArray) × TStmt × Unit) (F := fun x => spec_IsStmt x.1 x.2.1) (x := (vars, s, ())) h
noncomputable def g42 : Cfg := { P := Try.prog, take := [], keep := [], gho := [], ctx := [(43, C43), (48, C48), (76, C76)] }
@[simp] theorem g42_P : g42.P = Try.prog := rfl
@[simp] theorem g42_t : g42.take = [] := rfl
@[simp] theorem g42_g : g42.gho = [] := rfl
@[simp] theorem g42_r : g42.ro = [] := rfl
@[simp] theorem g42_w : g42.away = [] ∧ g42.give = [] ∧ g42.octx = [] := by rw [g42]; exact ⟨rfl, rfl, rfl⟩
@[simp] theorem g42_43 : lookN 43 g42.ctx = some C43 := rfl
@[simp] theorem g42_48 : lookN 48 g42.ctx = some C48 := rfl
@[simp] theorem g42_76 : lookN 76 g42.ctx = some C76 := rfl
set_option maxHeartbeats 4000000 in
set_option maxRecDepth 100000 in
theorem w42 {vars s} {y} (hp : spec_IsStmt vars s = some y) : ∃ m, callo g42 0 42 [av .shr vars, av .shr s] mem0 = some (Res.res y, m) := by
  refine start_fn (Try.f42.body.getD .skip) [.tmp 4] rfl rfl Try.func42 (by kernel_rfl) (by kernel_rfl) (by simp [Try.ntmps42]) rfl ?_
  unfold spec_IsStmt at hp
  obtain ⟨y_1, h_2, hp⟩ := bind_some hp
  have c_3 := C76_eq h_2
  simp at c_3
  obtain ⟨y_4, h_5, hp⟩ := bind_some hp
  have c_6 := C43_eq h_5
  simp at c_6
  simp [Try.f42, c_3, c_6]
  rcases cond_cases hp with ⟨h_7, hp⟩ | ⟨h_7, hp⟩
  · try simp at h_7
    try simp [h_7]
    rcases cond_cases hp with ⟨h_8, hp⟩ | ⟨h_8, hp⟩
    · try simp at h_8
      cases hp
      simp [Goal, FnEnd, h_7, h_8]
    · try simp at h_8
      try simp [h_7, h_8]
      rcases cond_cases hp with ⟨h_9, hp⟩ | ⟨h_9, hp⟩
      · try simp at h_9
        try simp [h_7, h_8, h_9]
        rcases cond_cases hp with ⟨h_10, hp⟩ | ⟨h_10, hp⟩
        · try simp at h_10
          cases hp
          simp [Goal, FnEnd, h_7, h_8, h_9, h_10]
        · try simp at h_10
          try simp [h_7, h_8, h_9, h_10]
          rcases cond_cases hp with ⟨h_11, hp⟩ | ⟨h_11, hp⟩
          · try simp at h_11
            try simp [h_7, h_8, h_9, h_10, h_11]
            rcases cond_cases hp with ⟨h_12, hp⟩ | ⟨h_12, hp⟩
            · try simp at h_12
              cases hp
              simp [Goal, FnEnd, h_7, h_8, h_9, h_10, h_11, h_12]
            · try simp at h_12
              cases hp
              simp [Goal, FnEnd, h_7, h_8, h_9, h_10, h_11, h_12]
          · try simp at h_11
            obtain ⟨y_13, h_14, hp⟩ := bind_some hp
            have c_15 := C48_eq h_14
            simp at c_15
            cases hp
            simp [Goal, FnEnd, h_7, h_8, h_9, h_10, h_11, c_15]
      · try simp at h_9
        try simp [h_7, h_8, h_9]
        rcases cond_cases hp with ⟨h_16, hp⟩ | ⟨h_16, hp⟩
        · try simp at h_16
          try simp [h_7, h_8, h_9, h_16]
          rcases cond_cases hp with ⟨h_17, hp⟩ | ⟨h_17, hp⟩
          · try simp at h_17
            cases hp
            simp [Goal, FnEnd, h_7, h_8, h_9, h_16, h_17]
          · try simp at h_17
            obtain ⟨y_18, h_19, hp⟩ := bind_some hp
            have c_20 := C48_eq h_19
            simp at c_20
            try simp [h_7, h_8, h_9, h_16, h_17, c_20]
            rcases cond_cases hp with ⟨h_21, hp⟩ | ⟨h_21, hp⟩
            · try simp at h_21
              cases hp
              simp [Goal, FnEnd, h_7, h_8, h_9, h_16, h_17, h_21]
            · try simp at h_21
              cases hp
              simp [Goal, FnEnd, h_7, h_8, h_9, h_16, h_17, h_21]
        · try simp at h_16
          obtain ⟨y_22, h_23, hp⟩ := bind_some hp
          have c_24 := C48_eq h_23
          simp at c_24
          try simp [h_7, h_8, h_9, h_16, c_24]
          rcases cond_cases hp with ⟨h_25, hp⟩ | ⟨h_25, hp⟩
          · try simp at h_25
            obtain ⟨y_26, h_27, hp⟩ := bind_some hp
            have c_28 := C48_eq h_27
            simp at c_28
            cases hp
            simp [Goal, FnEnd, h_7, h_8, h_9, h_16, h_25, c_28]
          · try simp at h_25
            cases hp
            simp [Goal, FnEnd, h_7, h_8, h_9, h_16, h_25]
  · try simp at h_7
    cases hp
    simp [Goal, FnEnd, h_7]
theorem pc42 : PC Try.prog 42 C42 := pc_of (g := g42) (ctxOK_of [(43, C43), (48, C48), (76, C76)] rfl ⟨pc43, pc48, pc76, trivial⟩) ⟨Try.f42, Try.func42, by kernel_rfl, by kernel_rfl⟩ fun x y h => w42 h
end Go.Proofs

