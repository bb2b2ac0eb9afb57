import Derived.Test.YtahcfnjgllpkdaaEvX
set_option linter.unusedSimpArgs false
set_option linter.unusedVariables false
set_option linter.unnecessarySimpa false
namespace Go.Proofs
open Go.Ev
noncomputable def C67 : List AV → Option AV := specP (X := (List Int) × Int × Unit) fun x => laws_szIntS x.1 x.2.1
theorem C67_eq {a_ left} {y} (h : laws_szIntS a_ left = some y) : C67 [av .shr a_, av .shr left] = some (Res.res y) := specP_eq (X := (List Int) × Int × Unit) (F := fun x => laws_szIntS x.1 x.2.1) (x := (a_, left, ())) h
noncomputable def g67 : Cfg := { P := Try.prog, take := [], keep := [], gho := [], ctx := [] }
@[simp] theorem g67_P : g67.P = Try.prog := rfl
@[simp] theorem g67_t : g67.take = [] := rfl
@[simp] theorem g67_g : g67.gho = [] := rfl
set_option maxHeartbeats 4000000 in
set_option maxRecDepth 100000 in
theorem w67 {a_ left} {y} (hp : laws_szIntS a_ left = some y) : ∃ m, callo g67 0 67 [av .shr a_, av .shr left] mem0 = some (Res.res y, m) := by
  refine start_fn (Try.f67.body.getD .skip) [.tmp 4] rfl rfl Try.func67 (by kernel_rfl) (by kernel_rfl) (by simp [Try.ntmps67]) rfl ?_
  unfold laws_szIntS at hp
  simp [Try.f67]
  rcases cond_cases hp with ⟨h_1, hp⟩ | ⟨h_1, hp⟩
  · try simp at h_1
    cases hp
    simp [Goal, FnEnd, h_1]
  · try simp at h_1
    cases hp
    simp [Goal, FnEnd, h_1]
theorem pc67 : PC Try.prog 67 C67 := pc_of (g := g67) (fun f F h => by cases h) ⟨Try.f67, Try.func67, by kernel_rfl, by kernel_rfl⟩ fun x y h => w67 h

noncomputable def C121 : List AV → Option AV := specP (X := TNode × Int × Unit) fun x => laws_szNode x.1 x.2.1
theorem C121_eq {a_ left} {y} (h : laws_szNode a_ left = some y) : C121 [av .shr a_, av .shr left] = some (Res.res y) := specP_eq (X := TNode × Int × Unit) (F := fun x => laws_szNode x.1 x.2.1) (x := (a_, left, ())) h
noncomputable def g121 : Cfg := { P := Try.prog, take := [], keep := [], gho := [], ctx := [(67, C67)] }
@[simp] theorem g121_P : g121.P = Try.prog := rfl
@[simp] theorem g121_t : g121.take = [] := rfl
@[simp] theorem g121_g : g121.gho = [] := rfl
@[simp] theorem g121_67 : lookN 67 g121.ctx = some C67 := rfl
set_option maxHeartbeats 4000000 in
set_option maxRecDepth 100000 in
theorem w121 {a_ left} {y} (hp : laws_szNode a_ left = some y) : ∃ m, callo g121 0 121 [av .shr a_, av .shr left] mem0 = some (Res.res y, m) := by
  refine start_fn (Try.f121.body.getD .skip) [.tmp 4] rfl rfl Try.func121 (by kernel_rfl) (by kernel_rfl) (by simp [Try.ntmps121]) rfl ?_
  unfold laws_szNode at hp
  obtain ⟨y_1, h_2, hp⟩ := bind_some hp
  have c_3 := C67_eq h_2
  simp at c_3
  simp [Try.f121, c_3]
  rcases cond_cases hp with ⟨h_4, hp⟩ | ⟨h_4, hp⟩
  · try simp at h_4
    cases hp
    simp [Goal, FnEnd, h_4]
  · try simp at h_4
    obtain ⟨y_5, h_6, hp⟩ := bind_some hp
    have c_7 := C67_eq h_6
    simp at c_7
    try simp [h_4, c_7]
    rcases cond_cases hp with ⟨h_8, hp⟩ | ⟨h_8, hp⟩
    · try simp at h_8
      cases hp
      simp [Goal, FnEnd, h_4, h_8]
    · try simp at h_8
      cases hp
      simp [Goal, FnEnd, h_4, h_8]
theorem pc121 : PC Try.prog 121 C121 := pc_of (g := g121) (ctxOK_of [(67, C67)] rfl ⟨pc67, trivial⟩) ⟨Try.f121, Try.func121, by kernel_rfl, by kernel_rfl⟩ fun x y h => w121 h

noncomputable def C66 : List AV → Option AV := specP (X := (List TNode) × Int × Unit) fun x => laws_szNodeS x.1 x.2.1
theorem C66_eq {a_ left} {y} (h : laws_szNodeS a_ left = some y) : C66 [av .shr a_, av .shr left] = some (Res.res y) := specP_eq (X := (List TNode) × Int × Unit) (F := fun x => laws_szNodeS x.1 x.2.1) (x := (a_, left, ())) h
noncomputable def g66 : Cfg := { P := Try.prog, take := [], keep := [((66, 5), { hd := [0, 1, 5], bx := [], ex := [1], rt := [4] })], gho := [], ctx := [(121, C121)] }
@[simp] theorem g66_P : g66.P = Try.prog := rfl
@[simp] theorem g66_t : g66.take = [] := rfl
@[simp] theorem g66_g : g66.gho = [] := rfl
@[simp] theorem g66_121 : lookN 121 g66.ctx = some C121 := rfl
set_option maxHeartbeats 4000000 in
set_option maxRecDepth 100000 in
theorem w66 {a_ left} {y} (hp : laws_szNodeS a_ left = some y) : ∃ m, callo g66 0 66 [av .shr a_, av .shr left] mem0 = some (Res.res y, m) := by
  refine start_fn (Try.f66.body.getD .skip) [.tmp 4] rfl rfl Try.func66 (by kernel_rfl) (by kernel_rfl) (by simp [Try.ntmps66]) rfl ?_
  unfold laws_szNodeS at hp
  simp [Try.f66]
  rcases cond_cases hp with ⟨h_1, hp⟩ | ⟨h_1, hp⟩
  · try simp at h_1
    cases hp
    simp [Goal, FnEnd, h_1]
  · try simp at h_1
    try simp [h_1]
    obtain ⟨r_21, h_22, hp⟩ := bind_some hp
    obtain ⟨I_4, I_4_⟩ : ∃ I : Int × Int → St → Prop, I = (fun (s_2 : Int × Int) (σ : St) => σ.env 0 = .one (.l .shr a_.length (encL a_)) ∧ σ.env 1 = .one (.s (.int .i64 s_2.1)) ∧ σ.env 5 = .one (.s (.int .i64 s_2.2)) ∧ σ.mem = mem0) := ⟨_, rfl⟩
    obtain ⟨X_5, X_5_⟩ : ∃ X : ((Int) ⊕ (Int)) → Out → Prop, X = (fun (r_21 : (Int) ⊕ (Int)) (out : Out) => Sum.elim (fun r_21 => ∃ σ : St, out = .ret σ ∧ σ.env 4 = .one (.s (.int .i64 r_21)) ∧ σ.mem = mem0) (fun r_21 => ∃ σ : St, out = .exit 0 σ ∧ σ.env 1 = .one (.s (.int .i64 r_21)) ∧ σ.mem = mem0) r_21) := ⟨_, rfl⟩
    refine loopP ({ hd := [0, 1, 5], bx := [], ex := [1], rt := [4] }) I_4 X_5 h_22 (by exact rfl) ?_ ?_ ?_
    · rw [I_4_]
      exact ⟨by simp [restrict_env, h_1], by simp [restrict_env, h_1], by simp [restrict_env, h_1], by simp [restrict_mem, h_1]⟩
    · intro s_2 σ_6 a_3 hI hp
      rw [I_4_] at hI
      obtain ⟨q_7, q_8, q_9, q_10⟩ := hI
      try simp [h_1, q_7, q_8, q_9, q_10]
      rcases cond_cases hp with ⟨h_11, hp⟩ | ⟨h_11, hp⟩
      · try simp at h_11
        obtain ⟨e_12, h_13, hp⟩ := bind_some hp
        have b_14 := at_lo h_13
        have b_15 := at_hi h_13
        try simp at b_14
        try simp at b_15
        have c_16 := seg_at' h_13 0 4 (by decide) (ds := [.sl e_12.vars.length (encL e_12.vars), .sl e_12.reach.length (encL e_12.reach), .sc (.int .i64 e_12.shared), .sc (.int .i64 e_12.many)]) rfl
        try simp at c_16
        obtain ⟨y_17, h_18, hp⟩ := bind_some hp
        have c_19 := C121_eq h_18
        simp at c_19
        try simp [h_1, q_7, q_8, q_9, q_10, h_11, b_14, b_15, c_16, c_19]
        rcases cond_cases hp with ⟨h_20, hp⟩ | ⟨h_20, hp⟩
        · try simp at h_20
          cases hp
          try simp [h_1, q_7, q_8, q_9, q_10, h_11, h_20]
          refine goal_outR ?_
          rw [X_5_]
          exact ⟨_, rfl, by simp [restrict_env, h_1, q_7, q_8, q_9, q_10, h_11, h_20], by simp [restrict_mem, h_1, q_7, q_8, q_9, q_10, h_11, h_20]⟩
        · try simp at h_20
          cases hp
          try simp [h_1, q_7, q_8, q_9, q_10, h_11, h_20]
          refine goal_next ?_
          rw [I_4_]
          exact ⟨by simp [restrict_env, h_1, q_7, q_8, q_9, q_10, h_11, h_20], by simp [restrict_env, h_1, q_7, q_8, q_9, q_10, h_11, h_20], by simp [restrict_env, h_1, q_7, q_8, q_9, q_10, h_11, h_20], by simp [restrict_mem, h_1, q_7, q_8, q_9, q_10, h_11, h_20]⟩
      · try simp at h_11
        cases hp
        try simp [h_1, q_7, q_8, q_9, q_10, h_11]
        refine goal_outX ?_
        rw [X_5_]
        exact ⟨_, rfl, by simp [restrict_env, h_1, q_7, q_8, q_9, q_10, h_11], by simp [restrict_mem, h_1, q_7, q_8, q_9, q_10, h_11]⟩
    · intro out hX
      rw [X_5_] at hX
      rcases r_21 with r_21 | r_21
      · simp only [Sum.elim_inl, Sum.elim_inr] at hX hp
        obtain ⟨σ_23, rfl, q_24, q_25⟩ := hX
        cases hp
        simp [Goal, FnEnd, h_1, q_24, q_25]
      · simp only [Sum.elim_inl, Sum.elim_inr] at hX hp
        obtain ⟨σ_26, rfl, q_27, q_28⟩ := hX
        cases hp
        simp [Goal, FnEnd, h_1, q_27, q_28]
theorem pc66 : PC Try.prog 66 C66 := pc_of (g := g66) (ctxOK_of [(121, C121)] rfl ⟨pc121, trivial⟩) ⟨Try.f66, Try.func66, by kernel_rfl, by kernel_rfl⟩ fun x y h => w66 h

noncomputable def C19 : List AV → Option AV := specP (X := TStructure × Int × Unit) fun x => laws_szStructure x.1 x.2.1
theorem C19_eq {a_ left} {y} (h : laws_szStructure a_ left = some y) : C19 [av .shr a_, av .shr left] = some (Res.res y) := specP_eq (X := TStructure × Int × Unit) (F := fun x => laws_szStructure x.1 x.2.1) (x := (a_, left, ())) h
noncomputable def g19 : Cfg := { P := Try.prog, take := [], keep := [], gho := [], ctx := [(66, C66), (67, C67)] }
@[simp] theorem g19_P : g19.P = Try.prog := rfl
@[simp] theorem g19_t : g19.take = [] := rfl
@[simp] theorem g19_g : g19.gho = [] := rfl
@[simp] theorem g19_66 : lookN 66 g19.ctx = some C66 := rfl
@[simp] theorem g19_67 : lookN 67 g19.ctx = some C67 := rfl
set_option maxHeartbeats 4000000 in
set_option maxRecDepth 100000 in
theorem w19 {a_ left} {y} (hp : laws_szStructure a_ left = some y) : ∃ m, callo g19 0 19 [av .shr a_, av .shr left] mem0 = some (Res.res y, m) := by
  refine start_fn (Try.f19.body.getD .skip) [.tmp 4] rfl rfl Try.func19 (by kernel_rfl) (by kernel_rfl) (by simp [Try.ntmps19]) rfl ?_
  unfold laws_szStructure at hp
  obtain ⟨y_1, h_2, hp⟩ := bind_some hp
  have c_3 := C66_eq h_2
  simp at c_3
  simp [Try.f19, c_3]
  rcases cond_cases hp with ⟨h_4, hp⟩ | ⟨h_4, hp⟩
  · try simp at h_4
    cases hp
    simp [Goal, FnEnd, h_4]
  · try simp at h_4
    obtain ⟨y_5, h_6, hp⟩ := bind_some hp
    have c_7 := C67_eq h_6
    simp at c_7
    try simp [h_4, c_7]
    rcases cond_cases hp with ⟨h_8, hp⟩ | ⟨h_8, hp⟩
    · try simp at h_8
      cases hp
      simp [Goal, FnEnd, h_4, h_8]
    · try simp at h_8
      cases hp
      simp [Goal, FnEnd, h_4, h_8]
theorem pc19 : PC Try.prog 19 C19 := pc_of (g := g19) (ctxOK_of [(66, C66), (67, C67)] rfl ⟨pc66, pc67, trivial⟩) ⟨Try.f19, Try.func19, by kernel_rfl, by kernel_rfl⟩ fun x y h => w19 h

noncomputable def C30 : List AV → Option AV := specP (X := (List TStructure) × Int × Unit) fun x => laws_szStructureS x.1 x.2.1
theorem C30_eq {a_ left} {y} (h : laws_szStructureS a_ left = some y) : C30 [av .shr a_, av .shr left] = some (Res.res y) := specP_eq (X := (List TStructure) × Int × Unit) (F := fun x => laws_szStructureS x.1 x.2.1) (x := (a_, left, ())) h
noncomputable def g30 : Cfg := { P := Try.prog, take := [], keep := [((30, 5), { hd := [0, 1, 5], bx := [], ex := [1], rt := [4] })], gho := [], ctx := [(19, C19)] }
@[simp] theorem g30_P : g30.P = Try.prog := rfl
@[simp] theorem g30_t : g30.take = [] := rfl
@[simp] theorem g30_g : g30.gho = [] := rfl
@[simp] theorem g30_19 : lookN 19 g30.ctx = some C19 := rfl
set_option maxHeartbeats 4000000 in
set_option maxRecDepth 100000 in
theorem w30 {a_ left} {y} (hp : laws_szStructureS a_ left = some y) : ∃ m, callo g30 0 30 [av .shr a_, av .shr left] mem0 = some (Res.res y, m) := by
  refine start_fn (Try.f30.body.getD .skip) [.tmp 4] rfl rfl Try.func30 (by kernel_rfl) (by kernel_rfl) (by simp [Try.ntmps30]) rfl ?_
  unfold laws_szStructureS at hp
  simp [Try.f30]
  rcases cond_cases hp with ⟨h_1, hp⟩ | ⟨h_1, hp⟩
  · try simp at h_1
    cases hp
    simp [Goal, FnEnd, h_1]
  · try simp at h_1
    try simp [h_1]
    obtain ⟨r_21, h_22, hp⟩ := bind_some hp
    obtain ⟨I_4, I_4_⟩ : ∃ I : Int × Int → St → Prop, I = (fun (s_2 : Int × Int) (σ : St) => σ.env 0 = .one (.l .shr a_.length (encL a_)) ∧ σ.env 1 = .one (.s (.int .i64 s_2.1)) ∧ σ.env 5 = .one (.s (.int .i64 s_2.2)) ∧ σ.mem = mem0) := ⟨_, rfl⟩
    obtain ⟨X_5, X_5_⟩ : ∃ X : ((Int) ⊕ (Int)) → Out → Prop, X = (fun (r_21 : (Int) ⊕ (Int)) (out : Out) => Sum.elim (fun r_21 => ∃ σ : St, out = .ret σ ∧ σ.env 4 = .one (.s (.int .i64 r_21)) ∧ σ.mem = mem0) (fun r_21 => ∃ σ : St, out = .exit 0 σ ∧ σ.env 1 = .one (.s (.int .i64 r_21)) ∧ σ.mem = mem0) r_21) := ⟨_, rfl⟩
    refine loopP ({ hd := [0, 1, 5], bx := [], ex := [1], rt := [4] }) I_4 X_5 h_22 (by exact rfl) ?_ ?_ ?_
    · rw [I_4_]
      exact ⟨by simp [restrict_env, h_1], by simp [restrict_env, h_1], by simp [restrict_env, h_1], by simp [restrict_mem, h_1]⟩
    · intro s_2 σ_6 a_3 hI hp
      rw [I_4_] at hI
      obtain ⟨q_7, q_8, q_9, q_10⟩ := hI
      try simp [h_1, q_7, q_8, q_9, q_10]
      rcases cond_cases hp with ⟨h_11, hp⟩ | ⟨h_11, hp⟩
      · try simp at h_11
        obtain ⟨e_12, h_13, hp⟩ := bind_some hp
        have b_14 := at_lo h_13
        have b_15 := at_hi h_13
        try simp at b_14
        try simp at b_15
        have c_16 := seg_at' h_13 0 2 (by decide) (ds := [.sl e_12.nodes.length (encL e_12.nodes), .sl e_12.next.length (encL e_12.next)]) rfl
        try simp at c_16
        obtain ⟨y_17, h_18, hp⟩ := bind_some hp
        have c_19 := C19_eq h_18
        simp at c_19
        try simp [h_1, q_7, q_8, q_9, q_10, h_11, b_14, b_15, c_16, c_19]
        rcases cond_cases hp with ⟨h_20, hp⟩ | ⟨h_20, hp⟩
        · try simp at h_20
          cases hp
          try simp [h_1, q_7, q_8, q_9, q_10, h_11, h_20]
          refine goal_outR ?_
          rw [X_5_]
          exact ⟨_, rfl, by simp [restrict_env, h_1, q_7, q_8, q_9, q_10, h_11, h_20], by simp [restrict_mem, h_1, q_7, q_8, q_9, q_10, h_11, h_20]⟩
        · try simp at h_20
          cases hp
          try simp [h_1, q_7, q_8, q_9, q_10, h_11, h_20]
          refine goal_next ?_
          rw [I_4_]
          exact ⟨by simp [restrict_env, h_1, q_7, q_8, q_9, q_10, h_11, h_20], by simp [restrict_env, h_1, q_7, q_8, q_9, q_10, h_11, h_20], by simp [restrict_env, h_1, q_7, q_8, q_9, q_10, h_11, h_20], by simp [restrict_mem, h_1, q_7, q_8, q_9, q_10, h_11, h_20]⟩
      · try simp at h_11
        cases hp
        try simp [h_1, q_7, q_8, q_9, q_10, h_11]
        refine goal_outX ?_
        rw [X_5_]
        exact ⟨_, rfl, by simp [restrict_env, h_1, q_7, q_8, q_9, q_10, h_11], by simp [restrict_mem, h_1, q_7, q_8, q_9, q_10, h_11]⟩
    · intro out hX
      rw [X_5_] at hX
      rcases r_21 with r_21 | r_21
      · simp only [Sum.elim_inl, Sum.elim_inr] at hX hp
        obtain ⟨σ_23, rfl, q_24, q_25⟩ := hX
        cases hp
        simp [Goal, FnEnd, h_1, q_24, q_25]
      · simp only [Sum.elim_inl, Sum.elim_inr] at hX hp
        obtain ⟨σ_26, rfl, q_27, q_28⟩ := hX
        cases hp
        simp [Goal, FnEnd, h_1, q_27, q_28]
theorem pc30 : PC Try.prog 30 C30 := pc_of (g := g30) (ctxOK_of [(19, C19)] rfl ⟨pc19, trivial⟩) ⟨Try.f30, Try.func30, by kernel_rfl, by kernel_rfl⟩ fun x y h => w30 h

noncomputable def C76 : List AV → Option AV := specP (X := (List Int) × Unit) fun x => laws_toIntS x.1
theorem C76_eq {a_} {y} (h : laws_toIntS a_ = some y) : C76 [av .shr a_] = some (Res.res y) := specP_eq (X := (List Int) × Unit) (F := fun x => laws_toIntS x.1) (x := (a_, ())) h
noncomputable def g76 : Cfg := { P := Try.prog, take := [(76, 7)], keep := [((76, 3), { hd := [0, 3, 4], bx := [], ex := [3], rt := [2] })], gho := [((76, atEnd), [.frz (.sl 2 0)])], ctx := [] }
@[simp] theorem g76_P : g76.P = Try.prog := rfl
@[simp] theorem g76_t : g76.take = [(76, 7)] := rfl
@[simp] theorem g76_g : g76.gho = [((76, atEnd), [.frz (.sl 2 0)])] := rfl
set_option maxHeartbeats 4000000 in
set_option maxRecDepth 100000 in
theorem w76 {a_} {y} (hp : laws_toIntS a_ = some y) : ∃ m, callo g76 0 76 [av .shr a_] mem0 = some (Res.res y, m) := by
  refine start_fn (Try.f76.body.getD .skip) [.tmp 2] rfl rfl Try.func76 (by kernel_rfl) (by kernel_rfl) (by simp [Try.ntmps76]) rfl ?_
  unfold laws_toIntS at hp
  obtain ⟨_, h_1, hp⟩ := bind_some hp
  have b_2 := roomI_lo h_1
  have b_3 := roomI_ok h_1
  try simp at b_2
  try simp at b_3
  have r_4 := row_replicate (a_.length : Int).toNat (0 : Int) (by rfl)
  try simp at r_4
  simp [Try.f76, b_2, b_3, r_4]
  obtain ⟨r_27, h_28, hp⟩ := bind_some hp
  obtain ⟨I_7, I_7_⟩ : ∃ I : Int × (List Int) → St → Prop, I = (fun (s_5 : Int × (List Int)) (σ : St) => σ.env 0 = .one (.l .shr a_.length (encL a_)) ∧ σ.env 3 = .one (.bs (1, 7) s_5.2.length 1) ∧ σ.env 4 = .one (.s (.int .i64 s_5.1)) ∧ σ.mem (1, 7) = some (rowC s_5.2) ∧ NoBox [(1, 7)] σ.mem) := ⟨_, rfl⟩
  obtain ⟨X_8, X_8_⟩ : ∃ X : (List Int) → Out → Prop, X = (fun (r_27 : (List Int)) (out : Out) => ∃ σ : St, out = .exit 0 σ ∧ σ.env 3 = .one (.bs (1, 7) r_27.length 1) ∧ σ.mem (1, 7) = some (rowC r_27) ∧ NoBox [(1, 7)] σ.mem) := ⟨_, rfl⟩
  refine loopP ({ hd := [0, 3, 4], bx := [], ex := [3], rt := [2] }) I_7 X_8 h_28 (by exact rfl) ?_ ?_ ?_
  · rw [I_7_]
    exact ⟨by simp [restrict_env], by simp [restrict_env], by simp [restrict_env], by simp [restrict_mem], NoBox.restrict (by intro k hk hb; simp at hk hb; simp [hk, hb])⟩
  · intro s_5 σ_9 a_6 hI hp
    rw [I_7_] at hI
    obtain ⟨q_10, q_11, q_12, q_13, hn_14⟩ := hI
    try simp [q_10, q_11, q_12, q_13]
    rcases cond_cases hp with ⟨h_15, hp⟩ | ⟨h_15, hp⟩
    · try simp at h_15
      obtain ⟨e_16, h_17, hp⟩ := bind_some hp
      have b_18 := at_lo h_17
      have b_19 := at_hi h_17
      try simp at b_18
      try simp at b_19
      have c_20 := seg_at' h_17 0 1 (by decide) (ds := [.sc (.int .i64 e_16)]) rfl
      try simp at c_20
      obtain ⟨e_21, h_22, hp⟩ := bind_some hp
      have b_23 := at_lo h_22
      have b_24 := at_hi h_22
      try simp at b_23
      try simp at b_24
      have c_25 := splice_row h_22 0 e_16 [(.s (.int .i64 e_16))] (by simp) rfl
      try simp at c_25
      have l_26 := row_room h_22 0 (m := 1) (by decide)
      try simp at l_26
      cases hp
      try simp [q_10, q_11, q_12, q_13, h_15, b_18, b_19, c_20, b_23, b_24, c_25, l_26]
      refine goal_next ?_
      rw [I_7_]
      exact ⟨by simp [restrict_env, q_10, q_11, q_12, q_13, h_15, b_18, b_19, c_20, b_23, b_24, c_25, l_26], by simp [restrict_env, q_10, q_11, q_12, q_13, h_15, b_18, b_19, c_20, b_23, b_24, c_25, l_26], by simp [restrict_env, q_10, q_11, q_12, q_13, h_15, b_18, b_19, c_20, b_23, b_24, c_25, l_26], by simp [restrict_mem, q_10, q_11, q_12, q_13, h_15, b_18, b_19, c_20, b_23, b_24, c_25, l_26], NoBox.restrict (by intro k hk hb; simp at hk hb; simp [hk, hb, q_10, q_11, q_12, q_13, h_15, b_18, b_19, c_20, b_23, b_24, c_25, l_26, hn_14 k (by simp [hk, hb])])⟩
    · try simp at h_15
      cases hp
      try simp [q_10, q_11, q_12, q_13, h_15]
      refine goal_outX ?_
      rw [X_8_]
      exact ⟨_, rfl, by simp [restrict_env, q_10, q_11, q_12, q_13, h_15], by simp [restrict_mem, q_10, q_11, q_12, q_13, h_15], NoBox.restrict (by intro k hk hb; simp at hk hb; simp [hk, hb, q_10, q_11, q_12, q_13, h_15, hn_14 k (by simp [hk, hb])])⟩
  · intro out hX
    rw [X_8_] at hX
    obtain ⟨σ_29, rfl, q_30, q_31, hn_32⟩ := hX
    cases hp
    simp [Goal, FnEnd, q_30, q_31]
theorem pc76 : PC Try.prog 76 C76 := pc_of (g := g76) (fun f F h => by cases h) ⟨Try.f76, Try.func76, by kernel_rfl, by kernel_rfl⟩ fun x y h => w76 h

noncomputable def C126 : List AV → Option AV := specP (X := TNode × Unit) fun x => laws_toNode x.1
theorem C126_eq {a_} {y} (h : laws_toNode a_ = some y) : C126 [av .shr a_] = some (Res.res y) := specP_eq (X := TNode × Unit) (F := fun x => laws_toNode x.1) (x := (a_, ())) h
noncomputable def g126 : Cfg := { P := Try.prog, take := [(126, 18)], keep := [], gho := [], ctx := [(76, C76)] }
@[simp] theorem g126_P : g126.P = Try.prog := rfl
@[simp] theorem g126_t : g126.take = [(126, 18)] := rfl
@[simp] theorem g126_g : g126.gho = [] := rfl
@[simp] theorem g126_76 : lookN 76 g126.ctx = some C76 := rfl
set_option maxHeartbeats 4000000 in
set_option maxRecDepth 100000 in
theorem w126 {a_} {y} (hp : laws_toNode a_ = some y) : ∃ m, callo g126 0 126 [av .shr a_] mem0 = some (Res.res y, m) := by
  refine start_fn (Try.f126.body.getD .skip) [.cell 2 104] rfl rfl Try.func126 (by kernel_rfl) (by kernel_rfl) (by simp [Try.ntmps126]) rfl ?_
  unfold laws_toNode at hp
  obtain ⟨y_1, h_2, hp⟩ := bind_some hp
  have c_3 := C76_eq h_2
  simp at c_3
  obtain ⟨y_4, h_5, hp⟩ := bind_some hp
  have c_6 := C76_eq h_5
  simp at c_6
  cases hp
  simp [Try.f126, Goal, FnEnd, retR, rsrc, RSrc.val, nodupR, nodup, tupPart, c_3, c_6]
theorem pc126 : PC Try.prog 126 C126 := pc_of (g := g126) (ctxOK_of [(76, C76)] rfl ⟨pc76, trivial⟩) ⟨Try.f126, Try.func126, by kernel_rfl, by kernel_rfl⟩ fun x y h => w126 h

noncomputable def C75 : List AV → Option AV := specP (X := (List TNode) × Unit) fun x => laws_toNodeS x.1
theorem C75_eq {a_} {y} (h : laws_toNodeS a_ = some y) : C75 [av .shr a_] = some (Res.res y) := specP_eq (X := (List TNode) × Unit) (F := fun x => laws_toNodeS x.1) (x := (a_, ())) h
noncomputable def g75 : Cfg := { P := Try.prog, take := [(75, 7)], keep := [((75, 3), { hd := [0, 3, 4], bx := [], ex := [3], rt := [2] })], gho := [((75, atEnd), [.frz (.sl 2 0)])], ctx := [(126, C126)] }
@[simp] theorem g75_P : g75.P = Try.prog := rfl
@[simp] theorem g75_t : g75.take = [(75, 7)] := rfl
@[simp] theorem g75_g : g75.gho = [((75, atEnd), [.frz (.sl 2 0)])] := rfl
@[simp] theorem g75_126 : lookN 126 g75.ctx = some C126 := rfl
set_option maxHeartbeats 4000000 in
set_option maxRecDepth 100000 in
theorem w75 {a_} {y} (hp : laws_toNodeS a_ = some y) : ∃ m, callo g75 0 75 [av .shr a_] mem0 = some (Res.res y, m) := by
  refine start_fn (Try.f75.body.getD .skip) [.tmp 2] rfl rfl Try.func75 (by kernel_rfl) (by kernel_rfl) (by simp [Try.ntmps75]) rfl ?_
  unfold laws_toNodeS at hp
  obtain ⟨_, h_1, hp⟩ := bind_some hp
  have b_2 := roomI_lo h_1
  have b_3 := roomI_ok h_1
  try simp at b_2
  try simp at b_3
  have r_4 := row_replicate (a_.length : Int).toNat ((⟨[], [], 0, 0⟩ : TNode) : TNode) (by rfl)
  try simp at r_4
  simp [Try.f75, b_2, b_3, r_4]
  obtain ⟨r_30, h_31, hp⟩ := bind_some hp
  obtain ⟨I_7, I_7_⟩ : ∃ I : Int × (List TNode) → St → Prop, I = (fun (s_5 : Int × (List TNode)) (σ : St) => σ.env 0 = .one (.l .shr a_.length (encL a_)) ∧ σ.env 3 = .one (.bs (1, 7) s_5.2.length 4) ∧ σ.env 4 = .one (.s (.int .i64 s_5.1)) ∧ σ.mem (1, 7) = some (rowC s_5.2) ∧ NoBox [(1, 7)] σ.mem) := ⟨_, rfl⟩
  obtain ⟨X_8, X_8_⟩ : ∃ X : (List TNode) → Out → Prop, X = (fun (r_30 : (List TNode)) (out : Out) => ∃ σ : St, out = .exit 0 σ ∧ σ.env 3 = .one (.bs (1, 7) r_30.length 4) ∧ σ.mem (1, 7) = some (rowC r_30) ∧ NoBox [(1, 7)] σ.mem) := ⟨_, rfl⟩
  refine loopP ({ hd := [0, 3, 4], bx := [], ex := [3], rt := [2] }) I_7 X_8 h_31 (by exact rfl) ?_ ?_ ?_
  · rw [I_7_]
    exact ⟨by simp [restrict_env], by simp [restrict_env], by simp [restrict_env], by simp [restrict_mem], NoBox.restrict (by intro k hk hb; simp at hk hb; simp [hk, hb])⟩
  · intro s_5 σ_9 a_6 hI hp
    rw [I_7_] at hI
    obtain ⟨q_10, q_11, q_12, q_13, hn_14⟩ := hI
    try simp [q_10, q_11, q_12, q_13]
    rcases cond_cases hp with ⟨h_15, hp⟩ | ⟨h_15, hp⟩
    · try simp at h_15
      obtain ⟨e_16, h_17, hp⟩ := bind_some hp
      have b_18 := at_lo h_17
      have b_19 := at_hi h_17
      try simp at b_18
      try simp at b_19
      have c_20 := seg_at' h_17 0 4 (by decide) (ds := [.sl e_16.vars.length (encL e_16.vars), .sl e_16.reach.length (encL e_16.reach), .sc (.int .i64 e_16.shared), .sc (.int .i64 e_16.many)]) rfl
      try simp at c_20
      obtain ⟨y_21, h_22, hp⟩ := bind_some hp
      have c_23 := C126_eq h_22
      simp at c_23
      obtain ⟨e_24, h_25, hp⟩ := bind_some hp
      have b_26 := at_lo h_25
      have b_27 := at_hi h_25
      try simp at b_26
      try simp at b_27
      have c_28 := splice_row h_25 0 y_21 [(.l .own y_21.vars.length (encL y_21.vars)), (.l .own y_21.reach.length (encL y_21.reach)), (.s (.int .i64 y_21.shared)), (.s (.int .i64 y_21.many))] (by simp) rfl
      try simp at c_28
      have l_29 := row_room h_25 0 (m := 4) (by decide)
      try simp at l_29
      cases hp
      try simp [q_10, q_11, q_12, q_13, h_15, b_18, b_19, c_20, c_23, b_26, b_27, c_28, l_29]
      refine goal_next ?_
      rw [I_7_]
      exact ⟨by simp [restrict_env, q_10, q_11, q_12, q_13, h_15, b_18, b_19, c_20, c_23, b_26, b_27, c_28, l_29], by simp [restrict_env, q_10, q_11, q_12, q_13, h_15, b_18, b_19, c_20, c_23, b_26, b_27, c_28, l_29], by simp [restrict_env, q_10, q_11, q_12, q_13, h_15, b_18, b_19, c_20, c_23, b_26, b_27, c_28, l_29], by simp [restrict_mem, q_10, q_11, q_12, q_13, h_15, b_18, b_19, c_20, c_23, b_26, b_27, c_28, l_29], NoBox.restrict (by intro k hk hb; simp at hk hb; simp [hk, hb, q_10, q_11, q_12, q_13, h_15, b_18, b_19, c_20, c_23, b_26, b_27, c_28, l_29, hn_14 k (by simp [hk, hb])])⟩
    · try simp at h_15
      cases hp
      try simp [q_10, q_11, q_12, q_13, h_15]
      refine goal_outX ?_
      rw [X_8_]
      exact ⟨_, rfl, by simp [restrict_env, q_10, q_11, q_12, q_13, h_15], by simp [restrict_mem, q_10, q_11, q_12, q_13, h_15], NoBox.restrict (by intro k hk hb; simp at hk hb; simp [hk, hb, q_10, q_11, q_12, q_13, h_15, hn_14 k (by simp [hk, hb])])⟩
  · intro out hX
    rw [X_8_] at hX
    obtain ⟨σ_32, rfl, q_33, q_34, hn_35⟩ := hX
    cases hp
    simp [Goal, FnEnd, q_33, q_34]
theorem pc75 : PC Try.prog 75 C75 := pc_of (g := g75) (ctxOK_of [(126, C126)] rfl ⟨pc126, trivial⟩) ⟨Try.f75, Try.func75, by kernel_rfl, by kernel_rfl⟩ fun x y h => w75 h

noncomputable def C21 : List AV → Option AV := specP (X := TStructure × Unit) fun x => laws_toStructure x.1
theorem C21_eq {a_} {y} (h : laws_toStructure a_ = some y) : C21 [av .shr a_] = some (Res.res y) := specP_eq (X := TStructure × Unit) (F := fun x => laws_toStructure x.1) (x := (a_, ())) h
noncomputable def g21 : Cfg := { P := Try.prog, take := [(21, 12)], keep := [], gho := [], ctx := [(75, C75), (76, C76)] }
@[simp] theorem g21_P : g21.P = Try.prog := rfl
@[simp] theorem g21_t : g21.take = [(21, 12)] := rfl
@[simp] theorem g21_g : g21.gho = [] := rfl
@[simp] theorem g21_75 : lookN 75 g21.ctx = some C75 := rfl
@[simp] theorem g21_76 : lookN 76 g21.ctx = some C76 := rfl
set_option maxHeartbeats 4000000 in
set_option maxRecDepth 100000 in
theorem w21 {a_} {y} (hp : laws_toStructure a_ = some y) : ∃ m, callo g21 0 21 [av .shr a_] mem0 = some (Res.res y, m) := by
  refine start_fn (Try.f21.body.getD .skip) [.cell 2 52] rfl rfl Try.func21 (by kernel_rfl) (by kernel_rfl) (by simp [Try.ntmps21]) rfl ?_
  unfold laws_toStructure at hp
  obtain ⟨y_1, h_2, hp⟩ := bind_some hp
  have c_3 := C75_eq h_2
  simp at c_3
  obtain ⟨y_4, h_5, hp⟩ := bind_some hp
  have c_6 := C76_eq h_5
  simp at c_6
  cases hp
  simp [Try.f21, Goal, FnEnd, retR, rsrc, RSrc.val, nodupR, nodup, tupPart, c_3, c_6]
theorem pc21 : PC Try.prog 21 C21 := pc_of (g := g21) (ctxOK_of [(75, C75), (76, C76)] rfl ⟨pc75, pc76, trivial⟩) ⟨Try.f21, Try.func21, by kernel_rfl, by kernel_rfl⟩ fun x y h => w21 h

noncomputable def C32 : List AV → Option AV := specP (X := (List TStructure) × Unit) fun x => laws_toStructureS x.1
theorem C32_eq {a_} {y} (h : laws_toStructureS a_ = some y) : C32 [av .shr a_] = some (Res.res y) := specP_eq (X := (List TStructure) × Unit) (F := fun x => laws_toStructureS x.1) (x := (a_, ())) h
noncomputable def g32 : Cfg := { P := Try.prog, take := [(32, 7)], keep := [((32, 3), { hd := [0, 3, 4], bx := [], ex := [3], rt := [2] })], gho := [((32, atEnd), [.frz (.sl 2 0)])], ctx := [(21, C21)] }
@[simp] theorem g32_P : g32.P = Try.prog := rfl
@[simp] theorem g32_t : g32.take = [(32, 7)] := rfl
@[simp] theorem g32_g : g32.gho = [((32, atEnd), [.frz (.sl 2 0)])] := rfl
@[simp] theorem g32_21 : lookN 21 g32.ctx = some C21 := rfl
set_option maxHeartbeats 4000000 in
set_option maxRecDepth 100000 in
theorem w32 {a_} {y} (hp : laws_toStructureS a_ = some y) : ∃ m, callo g32 0 32 [av .shr a_] mem0 = some (Res.res y, m) := by
  refine start_fn (Try.f32.body.getD .skip) [.tmp 2] rfl rfl Try.func32 (by kernel_rfl) (by kernel_rfl) (by simp [Try.ntmps32]) rfl ?_
  unfold laws_toStructureS at hp
  obtain ⟨_, h_1, hp⟩ := bind_some hp
  have b_2 := roomI_lo h_1
  have b_3 := roomI_ok h_1
  try simp at b_2
  try simp at b_3
  have r_4 := row_replicate (a_.length : Int).toNat ((⟨[], []⟩ : TStructure) : TStructure) (by rfl)
  try simp at r_4
  simp [Try.f32, b_2, b_3, r_4]
  obtain ⟨r_30, h_31, hp⟩ := bind_some hp
  obtain ⟨I_7, I_7_⟩ : ∃ I : Int × (List TStructure) → St → Prop, I = (fun (s_5 : Int × (List TStructure)) (σ : St) => σ.env 0 = .one (.l .shr a_.length (encL a_)) ∧ σ.env 3 = .one (.bs (1, 7) s_5.2.length 2) ∧ σ.env 4 = .one (.s (.int .i64 s_5.1)) ∧ σ.mem (1, 7) = some (rowC s_5.2) ∧ NoBox [(1, 7)] σ.mem) := ⟨_, rfl⟩
  obtain ⟨X_8, X_8_⟩ : ∃ X : (List TStructure) → Out → Prop, X = (fun (r_30 : (List TStructure)) (out : Out) => ∃ σ : St, out = .exit 0 σ ∧ σ.env 3 = .one (.bs (1, 7) r_30.length 2) ∧ σ.mem (1, 7) = some (rowC r_30) ∧ NoBox [(1, 7)] σ.mem) := ⟨_, rfl⟩
  refine loopP ({ hd := [0, 3, 4], bx := [], ex := [3], rt := [2] }) I_7 X_8 h_31 (by exact rfl) ?_ ?_ ?_
  · rw [I_7_]
    exact ⟨by simp [restrict_env], by simp [restrict_env], by simp [restrict_env], by simp [restrict_mem], NoBox.restrict (by intro k hk hb; simp at hk hb; simp [hk, hb])⟩
  · intro s_5 σ_9 a_6 hI hp
    rw [I_7_] at hI
    obtain ⟨q_10, q_11, q_12, q_13, hn_14⟩ := hI
    try simp [q_10, q_11, q_12, q_13]
    rcases cond_cases hp with ⟨h_15, hp⟩ | ⟨h_15, hp⟩
    · try simp at h_15
      obtain ⟨e_16, h_17, hp⟩ := bind_some hp
      have b_18 := at_lo h_17
      have b_19 := at_hi h_17
      try simp at b_18
      try simp at b_19
      have c_20 := seg_at' h_17 0 2 (by decide) (ds := [.sl e_16.nodes.length (encL e_16.nodes), .sl e_16.next.length (encL e_16.next)]) rfl
      try simp at c_20
      obtain ⟨y_21, h_22, hp⟩ := bind_some hp
      have c_23 := C21_eq h_22
      simp at c_23
      obtain ⟨e_24, h_25, hp⟩ := bind_some hp
      have b_26 := at_lo h_25
      have b_27 := at_hi h_25
      try simp at b_26
      try simp at b_27
      have c_28 := splice_row h_25 0 y_21 [(.l .own y_21.nodes.length (encL y_21.nodes)), (.l .own y_21.next.length (encL y_21.next))] (by simp) rfl
      try simp at c_28
      have l_29 := row_room h_25 0 (m := 2) (by decide)
      try simp at l_29
      cases hp
      try simp [q_10, q_11, q_12, q_13, h_15, b_18, b_19, c_20, c_23, b_26, b_27, c_28, l_29]
      refine goal_next ?_
      rw [I_7_]
      exact ⟨by simp [restrict_env, q_10, q_11, q_12, q_13, h_15, b_18, b_19, c_20, c_23, b_26, b_27, c_28, l_29], by simp [restrict_env, q_10, q_11, q_12, q_13, h_15, b_18, b_19, c_20, c_23, b_26, b_27, c_28, l_29], by simp [restrict_env, q_10, q_11, q_12, q_13, h_15, b_18, b_19, c_20, c_23, b_26, b_27, c_28, l_29], by simp [restrict_mem, q_10, q_11, q_12, q_13, h_15, b_18, b_19, c_20, c_23, b_26, b_27, c_28, l_29], NoBox.restrict (by intro k hk hb; simp at hk hb; simp [hk, hb, q_10, q_11, q_12, q_13, h_15, b_18, b_19, c_20, c_23, b_26, b_27, c_28, l_29, hn_14 k (by simp [hk, hb])])⟩
    · try simp at h_15
      cases hp
      try simp [q_10, q_11, q_12, q_13, h_15]
      refine goal_outX ?_
      rw [X_8_]
      exact ⟨_, rfl, by simp [restrict_env, q_10, q_11, q_12, q_13, h_15], by simp [restrict_mem, q_10, q_11, q_12, q_13, h_15], NoBox.restrict (by intro k hk hb; simp at hk hb; simp [hk, hb, q_10, q_11, q_12, q_13, h_15, hn_14 k (by simp [hk, hb])])⟩
  · intro out hX
    rw [X_8_] at hX
    obtain ⟨σ_32, rfl, q_33, q_34, hn_35⟩ := hX
    cases hp
    simp [Goal, FnEnd, q_33, q_34]
theorem pc32 : PC Try.prog 32 C32 := pc_of (g := g32) (ctxOK_of [(21, C21)] rfl ⟨pc21, trivial⟩) ⟨Try.f32, Try.func32, by kernel_rfl, by kernel_rfl⟩ fun x y h => w32 h

noncomputable def C45 : List AV → Option AV := specP (X := Int × Int × Int × Unit) fun x => spec_l1In x.1 x.2.1 x.2.2.1
theorem C45_eq {x_ lo hi} {y} (h : spec_l1In x_ lo hi = some y) : C45 [av .shr x_, av .shr lo, av .shr hi] = some (Res.res y) := specP_eq (X := Int × Int × Int × Unit) (F := fun x => spec_l1In x.1 x.2.1 x.2.2.1) (x := (x_, lo, hi, ())) h
noncomputable def g45 : Cfg := { P := Try.prog, take := [], keep := [], gho := [], ctx := [] }
@[simp] theorem g45_P : g45.P = Try.prog := rfl
@[simp] theorem g45_t : g45.take = [] := rfl
@[simp] theorem g45_g : g45.gho = [] := rfl
set_option maxHeartbeats 4000000 in
set_option maxRecDepth 100000 in
theorem w45 {x_ lo hi} {y} (hp : spec_l1In x_ lo hi = some y) : ∃ m, callo g45 0 45 [av .shr x_, av .shr lo, av .shr hi] mem0 = some (Res.res y, m) := by
  refine start_fn (Try.f45.body.getD .skip) [.tmp 6] rfl rfl Try.func45 (by kernel_rfl) (by kernel_rfl) (by simp [Try.ntmps45]) rfl ?_
  unfold spec_l1In at hp
  simp [Try.f45]
  rcases cond_cases hp with ⟨h_1, hp⟩ | ⟨h_1, hp⟩
  · try simp at h_1
    cases hp
    simp [Goal, FnEnd, h_1]
  · try simp at h_1
    cases hp
    simp [Goal, FnEnd, h_1]
theorem pc45 : PC Try.prog 45 C45 := pc_of (g := g45) (fun f F h => by cases h) ⟨Try.f45, Try.func45, by kernel_rfl, by kernel_rfl⟩ fun x y h => w45 h

abbrev G46 (g : Cfg) : Prop := Has Try.prog g 46 Try.f46 [29, 39] [(9, { hd := [1, 5, 6, 7, 8], bx := [], ex := [1, 5, 6, 7], rt := [4] }), (6, { hd := [1, 5, 6, 7], bx := [], ex := [5], rt := [4] })] [] []
set_option maxHeartbeats 4000000 in
set_option maxRecDepth 100000 in
theorem wI46 {g : Cfg} (G : G46 g) (fu : Nat) : ∀ {d : Nat} {mem : Mem} (hT : Tight d mem)  {n_ : Int} {most : Int}  {y} (hp : fixN R_spec_l9Lists fu (n_, most, ()) = some y), callo g d 46 [av .shr n_, av .shr most] mem = some (Res.res y, mem) := by
  have gP := G.P; have gt := G.tk; have gg := G.gh
  have i_46 := G.no
  have k_9 := G.kp (9, { hd := [1, 5, 6, 7, 8], bx := [], ex := [1, 5, 6, 7], rt := [4] }) (by simp)
  have k_6 := G.kp (6, { hd := [1, 5, 6, 7], bx := [], ex := [5], rt := [4] }) (by simp)
  induction fu with
  | zero => intros; exact absurd ‹fixN _ 0 _ = some _› (by simp [fixN])
  | succ fu ih =>
    intro d mem hT n_ most y hp
    have hT2 : memKill (fun k => decide (d < k.1)) mem = mem := hT
    refine start_in (Try.f46.body.getD .skip) [.tmp 4] G Try.func46 (by kernel_rfl) (by simp [Try.ntmps46]) rfl ?_
    replace hp : B_spec_l9Lists (fun n_ most => fixN R_spec_l9Lists fu (n_, most, ())) n_ most = some y := hp
    unfold B_spec_l9Lists at hp
    simp [Try.f46, gP, gt, gg, i_46]
    rcases cond_cases hp with ⟨h_1, hp⟩ | ⟨h_1, hp⟩
    · try simp at h_1
      cases hp
      simp [Goal, FnEndI, memKill_hi, gP, gt, gg, i_46, h_1, hT2]
    · try simp at h_1
      obtain ⟨y_2, h_3, hp⟩ := bind_some hp
      try simp [gP, gt, gg, i_46, h_1]
      refine goal_call [av .shr (subI n_ 1), av .shr most] (Res.res y_2) (by simp [gP, gt, gg, i_46, h_1]) (ih (by repeat (first | exact tight_mem0 _ | exact hT.up | exact hT | (simp only [true_and]; done) | refine Tight.upd ?_ (by simp) (by simp))) h_3) ?_
      try simp [gP, gt, gg, i_46, h_1]
      obtain ⟨r_44, h_45, hp⟩ := bind_some hp
      obtain ⟨I_6, I_6_⟩ : ∃ I : (List (List Int)) × Int → St → Prop, I = (fun (s_4 : (List (List Int)) × Int) (σ : St) => σ.env 1 = .one (.s (.int .i64 most)) ∧ σ.env 5 = .one (.l .own s_4.1.length (encL s_4.1)) ∧ σ.env 6 = .one (.l .own y_2.length (encL y_2)) ∧ σ.env 7 = .one (.s (.int .i64 s_4.2)) ∧ σ.mem = mem) := ⟨_, rfl⟩
      obtain ⟨X_7, X_7_⟩ : ∃ X : (List (List Int)) → Out → Prop, X = (fun (r_44 : (List (List Int))) (out : Out) => ∃ σ : St, out = .exit 0 σ ∧ σ.env 5 = .one (.l .own r_44.length (encL r_44)) ∧ σ.mem = mem) := ⟨_, rfl⟩
      refine loopP ({ hd := [1, 5, 6, 7], bx := [], ex := [5], rt := [4] }) I_6 X_7 h_45 (by exact k_6) ?_ ?_ ?_
      · rw [I_6_]
        exact ⟨by simp [restrict_env, gP, gt, gg, i_46, h_1], by simp [restrict_env, gP, gt, gg, i_46, h_1], by simp [restrict_env, gP, gt, gg, i_46, h_1], by simp [restrict_env, gP, gt, gg, i_46, h_1], by simp [restrict_mem, gP, gt, gg, i_46, h_1]⟩
      · intro s_4 σ_8 a_5 hI hp
        rw [I_6_] at hI
        obtain ⟨q_9, q_10, q_11, q_12, q_13⟩ := hI
        try simp [gP, gt, gg, i_46, h_1, q_9, q_10, q_11, q_12, q_13]
        rcases cond_cases hp with ⟨h_14, hp⟩ | ⟨h_14, hp⟩
        · try simp at h_14
          try simp [gP, gt, gg, i_46, h_1, q_9, q_10, q_11, q_12, q_13, h_14]
          obtain ⟨r_36, h_37, hp⟩ := bind_some hp
          obtain ⟨I_17, I_17_⟩ : ∃ I : (List (List Int)) × Int → St → Prop, I = (fun (s_15 : (List (List Int)) × Int) (σ : St) => σ.env 1 = .one (.s (.int .i64 most)) ∧ σ.env 5 = .one (.l .own s_15.1.length (encL s_15.1)) ∧ σ.env 6 = .one (.l .own y_2.length (encL y_2)) ∧ σ.env 7 = .one (.s (.int .i64 s_4.2)) ∧ σ.env 8 = .one (.s (.int .i64 s_15.2)) ∧ σ.mem = mem) := ⟨_, rfl⟩
          obtain ⟨X_18, X_18_⟩ : ∃ X : (List (List Int)) → Out → Prop, X = (fun (r_36 : (List (List Int))) (out : Out) => ∃ σ : St, out = .exit 2 σ ∧ σ.env 1 = .one (.s (.int .i64 most)) ∧ σ.env 5 = .one (.l .own r_36.length (encL r_36)) ∧ σ.env 6 = .one (.l .own y_2.length (encL y_2)) ∧ σ.env 7 = .one (.s (.int .i64 s_4.2)) ∧ σ.mem = mem) := ⟨_, rfl⟩
          refine loopP ({ hd := [1, 5, 6, 7, 8], bx := [], ex := [1, 5, 6, 7], rt := [4] }) I_17 X_18 h_37 (by exact k_9) ?_ ?_ ?_
          · rw [I_17_]
            exact ⟨by simp [restrict_env, gP, gt, gg, i_46, h_1, q_9, q_10, q_11, q_12, q_13, h_14], by simp [restrict_env, gP, gt, gg, i_46, h_1, q_9, q_10, q_11, q_12, q_13, h_14], by simp [restrict_env, gP, gt, gg, i_46, h_1, q_9, q_10, q_11, q_12, q_13, h_14], by simp [restrict_env, gP, gt, gg, i_46, h_1, q_9, q_10, q_11, q_12, q_13, h_14], by simp [restrict_env, gP, gt, gg, i_46, h_1, q_9, q_10, q_11, q_12, q_13, h_14], by simp [restrict_mem, gP, gt, gg, i_46, h_1, q_9, q_10, q_11, q_12, q_13, h_14]⟩
          · intro s_15 σ_19 a_16 hI hp
            rw [I_17_] at hI
            obtain ⟨q_20, q_21, q_22, q_23, q_24, q_25⟩ := hI
            try simp [gP, gt, gg, i_46, h_1, h_14, q_20, q_21, q_22, q_23, q_24, q_25]
            rcases cond_cases hp with ⟨h_26, hp⟩ | ⟨h_26, hp⟩
            · try simp at h_26
              obtain ⟨e_27, h_28, hp⟩ := bind_some hp
              have b_29 := at_lo h_28
              have b_30 := at_hi h_28
              try simp at b_29
              try simp at b_30
              have c_31 := seg_at' h_28 0 1 (by decide) (ds := [.sl e_27.length (encL e_27)]) rfl
              try simp at c_31
              obtain ⟨_, h_32, hp⟩ := bind_some hp
              have b_33 := room_ok h_32
              try simp at b_33
              obtain ⟨_, h_34, hp⟩ := bind_some hp
              have b_35 := room_ok h_34
              try simp at b_35
              cases hp
              try simp [gP, gt, gg, i_46, h_1, h_14, q_20, q_21, q_22, q_23, q_24, q_25, h_26, b_29, b_30, c_31, b_33, b_35]
              refine goal_next ?_
              rw [I_17_]
              exact ⟨by simp [restrict_env, gP, gt, gg, i_46, h_1, h_14, q_20, q_21, q_22, q_23, q_24, q_25, h_26, b_29, b_30, c_31, b_33, b_35], by simp [restrict_env, gP, gt, gg, i_46, h_1, h_14, q_20, q_21, q_22, q_23, q_24, q_25, h_26, b_29, b_30, c_31, b_33, b_35], by simp [restrict_env, gP, gt, gg, i_46, h_1, h_14, q_20, q_21, q_22, q_23, q_24, q_25, h_26, b_29, b_30, c_31, b_33, b_35], by simp [restrict_env, gP, gt, gg, i_46, h_1, h_14, q_20, q_21, q_22, q_23, q_24, q_25, h_26, b_29, b_30, c_31, b_33, b_35], by simp [restrict_env, gP, gt, gg, i_46, h_1, h_14, q_20, q_21, q_22, q_23, q_24, q_25, h_26, b_29, b_30, c_31, b_33, b_35], by simp [restrict_mem, gP, gt, gg, i_46, h_1, h_14, q_20, q_21, q_22, q_23, q_24, q_25, h_26, b_29, b_30, c_31, b_33, b_35]⟩
            · try simp at h_26
              cases hp
              try simp [gP, gt, gg, i_46, h_1, h_14, q_20, q_21, q_22, q_23, q_24, q_25, h_26]
              refine goal_outX ?_
              rw [X_18_]
              exact ⟨_, rfl, by simp [restrict_env, gP, gt, gg, i_46, h_1, h_14, q_20, q_21, q_22, q_23, q_24, q_25, h_26], by simp [restrict_env, gP, gt, gg, i_46, h_1, h_14, q_20, q_21, q_22, q_23, q_24, q_25, h_26], by simp [restrict_env, gP, gt, gg, i_46, h_1, h_14, q_20, q_21, q_22, q_23, q_24, q_25, h_26], by simp [restrict_env, gP, gt, gg, i_46, h_1, h_14, q_20, q_21, q_22, q_23, q_24, q_25, h_26], by simp [restrict_mem, gP, gt, gg, i_46, h_1, h_14, q_20, q_21, q_22, q_23, q_24, q_25, h_26]⟩
          · intro out hX
            rw [X_18_] at hX
            obtain ⟨σ_38, rfl, q_39, q_40, q_41, q_42, q_43⟩ := hX
            cases hp
            try simp [gP, gt, gg, i_46, h_1, h_14, q_39, q_40, q_41, q_42, q_43]
            refine goal_next ?_
            rw [I_6_]
            exact ⟨by simp [restrict_env, gP, gt, gg, i_46, h_1, h_14, q_39, q_40, q_41, q_42, q_43], by simp [restrict_env, gP, gt, gg, i_46, h_1, h_14, q_39, q_40, q_41, q_42, q_43], by simp [restrict_env, gP, gt, gg, i_46, h_1, h_14, q_39, q_40, q_41, q_42, q_43], by simp [restrict_env, gP, gt, gg, i_46, h_1, h_14, q_39, q_40, q_41, q_42, q_43], by simp [restrict_mem, gP, gt, gg, i_46, h_1, h_14, q_39, q_40, q_41, q_42, q_43]⟩
        · try simp at h_14
          cases hp
          try simp [gP, gt, gg, i_46, h_1, q_9, q_10, q_11, q_12, q_13, h_14]
          refine goal_outX ?_
          rw [X_7_]
          exact ⟨_, rfl, by simp [restrict_env, gP, gt, gg, i_46, h_1, q_9, q_10, q_11, q_12, q_13, h_14], by simp [restrict_mem, gP, gt, gg, i_46, h_1, q_9, q_10, q_11, q_12, q_13, h_14]⟩
      · intro out hX
        rw [X_7_] at hX
        obtain ⟨σ_46, rfl, q_47, q_48⟩ := hX
        cases hp
        simp [Goal, FnEndI, memKill_hi, gP, gt, gg, i_46, h_1, q_47, q_48, hT2]

noncomputable def C46 : List AV → Option AV := specP (X := Int × Int × Unit) fun x => spec_l9Lists x.1 x.2.1
theorem C46_eq {n_ most} {y} (h : spec_l9Lists n_ most = some y) : C46 [av .shr n_, av .shr most] = some (Res.res y) := specP_eq (X := Int × Int × Unit) (F := fun x => spec_l9Lists x.1 x.2.1) (x := (n_, most, ())) h
noncomputable def g46 : Cfg := { P := Try.prog, take := [(46, 29), (46, 39)], keep := [((46, 6), { hd := [1, 5, 6, 7], bx := [], ex := [5], rt := [4] }), ((46, 9), { hd := [1, 5, 6, 7, 8], bx := [], ex := [1, 5, 6, 7], rt := [4] })], gho := [], ctx := [] }
@[simp] theorem g46_P : g46.P = Try.prog := rfl
@[simp] theorem g46_t : g46.take = [(46, 29), (46, 39)] := rfl
@[simp] theorem g46_g : g46.gho = [] := rfl
theorem w46 {n_ most} {y} (hp : spec_l9Lists n_ most = some y) : ∃ m, callo g46 0 46 [av .shr n_, av .shr most] mem0 = some (Res.res y, m) := by
  have G_46 : G46 g46 := ⟨rfl, by kernel_rfl, rfl, fun t => by simp, fun i => by simp [lookK], by simp [g46, lookK], by simp⟩
  exact ⟨_, wI46 G_46 _ (tight_mem0 0)  (fixO_some hp).choose_spec⟩
theorem pc46 : PC Try.prog 46 C46 := pc_of (g := g46) (fun f F h => by cases h) ⟨Try.f46, Try.func46, by kernel_rfl, by kernel_rfl⟩ fun x y h => w46 h

noncomputable def C103 : List AV → Option AV := specP (X := THeap × Unit) fun x => spec_l7Cells x.1
theorem C103_eq {h_} {y} (h : spec_l7Cells h_ = some y) : C103 [av .shr h_] = some (Res.res y) := specP_eq (X := THeap × Unit) (F := fun x => spec_l7Cells x.1) (x := (h_, ())) h
noncomputable def g103 : Cfg := { P := Try.prog, take := [], keep := [((103, 2), { hd := [1, 3], bx := [], ex := [1], rt := [2] }), ((103, 7), { hd := [1, 4], bx := [], ex := [], rt := [2] })], gho := [], ctx := [(45, C45)] }
@[simp] theorem g103_P : g103.P = Try.prog := rfl
@[simp] theorem g103_t : g103.take = [] := rfl
@[simp] theorem g103_g : g103.gho = [] := rfl
@[simp] theorem g103_45 : lookN 45 g103.ctx = some C45 := rfl
set_option maxHeartbeats 4000000 in
set_option maxRecDepth 100000 in
theorem w103 {h_} {y} (hp : spec_l7Cells h_ = some y) : ∃ m, callo g103 0 103 [av .shr h_] mem0 = some (Res.res y, m) := by
  refine start_fn (Try.f103.body.getD .skip) [.tmp 2] rfl rfl Try.func103 (by kernel_rfl) (by kernel_rfl) (by simp [Try.ntmps103]) rfl ?_
  unfold spec_l7Cells at hp
  simp [Try.f103]
  obtain ⟨r_20, h_21, hp⟩ := bind_some hp
  obtain ⟨I_3, I_3_⟩ : ∃ I : Int → St → Prop, I = (fun (s_1 : Int) (σ : St) => σ.env 1 = .one (.ptr (1, 1) 0) ∧ σ.env 3 = .one (.s (.int .i64 s_1)) ∧ σ.mem (1, 1) = some [(.l .shr h_.vars.length (encL h_.vars)), (.l .shr h_.next.length (encL h_.next))] ∧ NoBox [(1, 1)] σ.mem) := ⟨_, rfl⟩
  obtain ⟨X_4, X_4_⟩ : ∃ X : ((Unit) ⊕ (Unit)) → Out → Prop, X = (fun (r_20 : (Unit) ⊕ (Unit)) (out : Out) => Sum.elim (fun r_20 => ∃ σ : St, out = .ret σ ∧ σ.env 2 = .one (.s (.bool false)) ∧ σ.mem (1, 1) = some [(.l .shr h_.vars.length (encL h_.vars)), (.l .shr h_.next.length (encL h_.next))] ∧ NoBox [(1, 1)] σ.mem) (fun r_20 => ∃ σ : St, out = .exit 0 σ ∧ σ.env 1 = .one (.ptr (1, 1) 0) ∧ σ.mem (1, 1) = some [(.l .shr h_.vars.length (encL h_.vars)), (.l .shr h_.next.length (encL h_.next))] ∧ NoBox [(1, 1)] σ.mem) r_20) := ⟨_, rfl⟩
  refine loopP ({ hd := [1, 3], bx := [], ex := [1], rt := [2] }) I_3 X_4 h_21 (by exact rfl) ?_ ?_ ?_
  · rw [I_3_]
    exact ⟨by simp [restrict_env], by simp [restrict_env], by simp [restrict_mem], NoBox.restrict (by intro k hk hb; simp at hk hb; simp [hk, hb])⟩
  · intro s_1 σ_5 a_2 hI hp
    rw [I_3_] at hI
    obtain ⟨q_6, q_7, q_8, hn_9⟩ := hI
    try simp [q_6, q_7, q_8]
    rcases cond_cases hp with ⟨h_10, hp⟩ | ⟨h_10, hp⟩
    · try simp at h_10
      obtain ⟨e_11, h_12, hp⟩ := bind_some hp
      have b_13 := at_lo h_12
      have b_14 := at_hi h_12
      try simp at b_13
      try simp at b_14
      have c_15 := seg_at' h_12 0 1 (by decide) (ds := [.sc (.int .i64 e_11)]) rfl
      try simp at c_15
      obtain ⟨y_16, h_17, hp⟩ := bind_some hp
      have c_18 := C45_eq h_17
      simp at c_18
      try simp [q_6, q_7, q_8, h_10, b_13, b_14, c_15, c_18]
      rcases cond_cases hp with ⟨h_19, hp⟩ | ⟨h_19, hp⟩
      · try simp at h_19
        cases hp
        try simp [q_6, q_7, q_8, h_10, h_19]
        refine goal_next ?_
        rw [I_3_]
        exact ⟨by simp [restrict_env, q_6, q_7, q_8, h_10, h_19], by simp [restrict_env, q_6, q_7, q_8, h_10, h_19], by simp [restrict_mem, q_6, q_7, q_8, h_10, h_19], NoBox.restrict (by intro k hk hb; simp at hk hb; simp [hk, hb, q_6, q_7, q_8, h_10, h_19, hn_9 k (by simp [hk, hb])])⟩
      · try simp at h_19
        cases hp
        try simp [q_6, q_7, q_8, h_10, h_19]
        refine goal_outR ?_
        rw [X_4_]
        exact ⟨_, rfl, by simp [restrict_env, q_6, q_7, q_8, h_10, h_19], by simp [restrict_mem, q_6, q_7, q_8, h_10, h_19], NoBox.restrict (by intro k hk hb; simp at hk hb; simp [hk, hb, q_6, q_7, q_8, h_10, h_19, hn_9 k (by simp [hk, hb])])⟩
    · try simp at h_10
      cases hp
      try simp [q_6, q_7, q_8, h_10]
      refine goal_outX ?_
      rw [X_4_]
      exact ⟨_, rfl, by simp [restrict_env, q_6, q_7, q_8, h_10], by simp [restrict_mem, q_6, q_7, q_8, h_10], NoBox.restrict (by intro k hk hb; simp at hk hb; simp [hk, hb, q_6, q_7, q_8, h_10, hn_9 k (by simp [hk, hb])])⟩
  · intro out hX
    rw [X_4_] at hX
    rcases r_20 with r_20 | r_20
    · simp only [Sum.elim_inl, Sum.elim_inr] at hX hp
      obtain ⟨σ_22, rfl, q_23, q_24, hn_25⟩ := hX
      cases hp
      simp [Goal, FnEnd, q_23, q_24]
    · simp only [Sum.elim_inl, Sum.elim_inr] at hX hp
      obtain ⟨σ_26, rfl, q_27, q_28, hn_29⟩ := hX
      try simp [q_27, q_28]
      obtain ⟨r_49, h_50, hp⟩ := bind_some hp
      obtain ⟨I_32, I_32_⟩ : ∃ I : Int → St → Prop, I = (fun (s_30 : Int) (σ : St) => σ.env 1 = .one (.ptr (1, 1) 0) ∧ σ.env 4 = .one (.s (.int .i64 s_30)) ∧ σ.mem (1, 1) = some [(.l .shr h_.vars.length (encL h_.vars)), (.l .shr h_.next.length (encL h_.next))] ∧ NoBox [(1, 1)] σ.mem) := ⟨_, rfl⟩
      obtain ⟨X_33, X_33_⟩ : ∃ X : ((Bool) ⊕ (Unit)) → Out → Prop, X = (fun (r_49 : (Bool) ⊕ (Unit)) (out : Out) => Sum.elim (fun r_49 => ∃ σ : St, out = .ret σ ∧ σ.env 2 = .one (.s (.bool r_49)) ∧ σ.mem (1, 1) = some [(.l .shr h_.vars.length (encL h_.vars)), (.l .shr h_.next.length (encL h_.next))] ∧ NoBox [(1, 1)] σ.mem) (fun r_49 => ∃ σ : St, out = .exit 2 σ ∧ σ.mem (1, 1) = some [(.l .shr h_.vars.length (encL h_.vars)), (.l .shr h_.next.length (encL h_.next))] ∧ NoBox [(1, 1)] σ.mem) r_49) := ⟨_, rfl⟩
      refine loopP ({ hd := [1, 4], bx := [], ex := [], rt := [2] }) I_32 X_33 h_50 (by exact rfl) ?_ ?_ ?_
      · rw [I_32_]
        exact ⟨by simp [restrict_env, q_27, q_28], by simp [restrict_env, q_27, q_28], by simp [restrict_mem, q_27, q_28], NoBox.restrict (by intro k hk hb; simp at hk hb; simp [hk, hb, q_27, q_28, hn_29 k (by simp [hk, hb])])⟩
      · intro s_30 σ_34 a_31 hI hp
        rw [I_32_] at hI
        obtain ⟨q_35, q_36, q_37, hn_38⟩ := hI
        try simp [q_35, q_36, q_37]
        rcases cond_cases hp with ⟨h_39, hp⟩ | ⟨h_39, hp⟩
        · try simp at h_39
          obtain ⟨e_40, h_41, hp⟩ := bind_some hp
          have b_42 := at_lo h_41
          have b_43 := at_hi h_41
          try simp at b_42
          try simp at b_43
          have c_44 := seg_at' h_41 0 1 (by decide) (ds := [.sc (.int .i64 e_40)]) rfl
          try simp at c_44
          obtain ⟨y_45, h_46, hp⟩ := bind_some hp
          have c_47 := C45_eq h_46
          simp at c_47
          try simp [q_35, q_36, q_37, h_39, b_42, b_43, c_44, c_47]
          rcases cond_cases hp with ⟨h_48, hp⟩ | ⟨h_48, hp⟩
          · try simp at h_48
            cases hp
            try simp [q_35, q_36, q_37, h_39, h_48]
            refine goal_next ?_
            rw [I_32_]
            exact ⟨by simp [restrict_env, q_35, q_36, q_37, h_39, h_48], by simp [restrict_env, q_35, q_36, q_37, h_39, h_48], by simp [restrict_mem, q_35, q_36, q_37, h_39, h_48], NoBox.restrict (by intro k hk hb; simp at hk hb; simp [hk, hb, q_35, q_36, q_37, h_39, h_48, hn_38 k (by simp [hk, hb])])⟩
          · try simp at h_48
            cases hp
            try simp [q_35, q_36, q_37, h_39, h_48]
            refine goal_outR ?_
            rw [X_33_]
            exact ⟨_, rfl, by simp [restrict_env, q_35, q_36, q_37, h_39, h_48], by simp [restrict_mem, q_35, q_36, q_37, h_39, h_48], NoBox.restrict (by intro k hk hb; simp at hk hb; simp [hk, hb, q_35, q_36, q_37, h_39, h_48, hn_38 k (by simp [hk, hb])])⟩
        · try simp at h_39
          cases hp
          try simp [q_35, q_36, q_37, h_39]
          refine goal_outX ?_
          rw [X_33_]
          exact ⟨_, rfl, by simp [restrict_mem, q_35, q_36, q_37, h_39], NoBox.restrict (by intro k hk hb; simp at hk hb; simp [hk, hb, q_35, q_36, q_37, h_39, hn_38 k (by simp [hk, hb])])⟩
      · intro out hX
        rw [X_33_] at hX
        rcases r_49 with r_49 | r_49
        · simp only [Sum.elim_inl, Sum.elim_inr] at hX hp
          obtain ⟨σ_51, rfl, q_52, q_53, hn_54⟩ := hX
          cases hp
          simp [Goal, FnEnd, q_52, q_53]
        · simp only [Sum.elim_inl, Sum.elim_inr] at hX hp
          obtain ⟨σ_55, rfl, q_56, hn_57⟩ := hX
          cases hp
          simp [Goal, FnEnd, q_56]
theorem pc103 : PC Try.prog 103 C103 := pc_of (g := g103) (ctxOK_of [(45, C45)] rfl ⟨pc45, trivial⟩) ⟨Try.f103, Try.func103, by kernel_rfl, by kernel_rfl⟩ fun x y h => w103 h

noncomputable def C148 : List AV → Option AV := specP (X := (List Int) × Int × Unit) fun x => spec_Positions x.1 x.2.1
theorem C148_eq {list n_} {y} (h : spec_Positions list n_ = some y) : C148 [av .shr list, av .shr n_] = some (Res.res y) := specP_eq (X := (List Int) × Int × Unit) (F := fun x => spec_Positions x.1 x.2.1) (x := (list, n_, ())) h
noncomputable def g148 : Cfg := { P := Try.prog, take := [(148, 20), (148, 24)], keep := [((148, 3), { hd := [0, 1, 5, 6], bx := [], ex := [5], rt := [4] })], gho := [], ctx := [] }
@[simp] theorem g148_P : g148.P = Try.prog := rfl
@[simp] theorem g148_t : g148.take = [(148, 20), (148, 24)] := rfl
@[simp] theorem g148_g : g148.gho = [] := rfl
set_option maxHeartbeats 4000000 in
set_option maxRecDepth 100000 in
theorem w148 {list n_} {y} (hp : spec_Positions list n_ = some y) : ∃ m, callo g148 0 148 [av .shr list, av .shr n_] mem0 = some (Res.res y, m) := by
  refine start_fn (Try.f148.body.getD .skip) [.tmp 4] rfl rfl Try.func148 (by kernel_rfl) (by kernel_rfl) (by simp [Try.ntmps148]) rfl ?_
  unfold spec_Positions at hp
  simp [Try.f148]
  obtain ⟨r_20, h_21, hp⟩ := bind_some hp
  obtain ⟨I_3, I_3_⟩ : ∃ I : (List Int) × Int → St → Prop, I = (fun (s_1 : (List Int) × Int) (σ : St) => σ.env 0 = .one (.l .shr list.length (encL list)) ∧ σ.env 1 = .one (.s (.int .i64 n_)) ∧ σ.env 5 = .one (.l .own s_1.1.length (encL s_1.1)) ∧ σ.env 6 = .one (.s (.int .i64 s_1.2)) ∧ σ.mem = mem0) := ⟨_, rfl⟩
  obtain ⟨X_4, X_4_⟩ : ∃ X : (List Int) → Out → Prop, X = (fun (r_20 : (List Int)) (out : Out) => ∃ σ : St, out = .exit 0 σ ∧ σ.env 5 = .one (.l .own r_20.length (encL r_20)) ∧ σ.mem = mem0) := ⟨_, rfl⟩
  refine loopP ({ hd := [0, 1, 5, 6], bx := [], ex := [5], rt := [4] }) I_3 X_4 h_21 (by exact rfl) ?_ ?_ ?_
  · rw [I_3_]
    exact ⟨by simp [restrict_env], by simp [restrict_env], by simp [restrict_env], by simp [restrict_env], by simp [restrict_mem]⟩
  · intro s_1 σ_5 a_2 hI hp
    rw [I_3_] at hI
    obtain ⟨q_6, q_7, q_8, q_9, q_10⟩ := hI
    try simp [q_6, q_7, q_8, q_9, q_10]
    rcases cond_cases hp with ⟨h_11, hp⟩ | ⟨h_11, hp⟩
    · try simp at h_11
      obtain ⟨e_12, h_13, hp⟩ := bind_some hp
      have b_14 := at_lo h_13
      have b_15 := at_hi h_13
      try simp at b_14
      try simp at b_15
      have c_16 := seg_at' h_13 0 1 (by decide) (ds := [.sc (.int .i64 e_12)]) rfl
      try simp at c_16
      try simp [q_6, q_7, q_8, q_9, q_10, h_11, b_14, b_15, c_16]
      rcases cond_cases hp with ⟨h_17, hp⟩ | ⟨h_17, hp⟩
      · try simp at h_17
        obtain ⟨_, h_18, hp⟩ := bind_some hp
        have b_19 := room_ok h_18
        try simp at b_19
        cases hp
        try simp [q_6, q_7, q_8, q_9, q_10, h_11, h_17, b_19]
        refine goal_next ?_
        rw [I_3_]
        exact ⟨by simp [restrict_env, q_6, q_7, q_8, q_9, q_10, h_11, h_17, b_19], by simp [restrict_env, q_6, q_7, q_8, q_9, q_10, h_11, h_17, b_19], by simp [restrict_env, q_6, q_7, q_8, q_9, q_10, h_11, h_17, b_19], by simp [restrict_env, q_6, q_7, q_8, q_9, q_10, h_11, h_17, b_19], by simp [restrict_mem, q_6, q_7, q_8, q_9, q_10, h_11, h_17, b_19]⟩
      · try simp at h_17
        cases hp
        try simp [q_6, q_7, q_8, q_9, q_10, h_11, h_17]
        refine goal_next ?_
        rw [I_3_]
        exact ⟨by simp [restrict_env, q_6, q_7, q_8, q_9, q_10, h_11, h_17], by simp [restrict_env, q_6, q_7, q_8, q_9, q_10, h_11, h_17], by simp [restrict_env, q_6, q_7, q_8, q_9, q_10, h_11, h_17], by simp [restrict_env, q_6, q_7, q_8, q_9, q_10, h_11, h_17], by simp [restrict_mem, q_6, q_7, q_8, q_9, q_10, h_11, h_17]⟩
    · try simp at h_11
      cases hp
      try simp [q_6, q_7, q_8, q_9, q_10, h_11]
      refine goal_outX ?_
      rw [X_4_]
      exact ⟨_, rfl, by simp [restrict_env, q_6, q_7, q_8, q_9, q_10, h_11], by simp [restrict_mem, q_6, q_7, q_8, q_9, q_10, h_11]⟩
  · intro out hX
    rw [X_4_] at hX
    obtain ⟨σ_22, rfl, q_23, q_24⟩ := hX
    cases hp
    simp [Goal, FnEnd, q_23, q_24]
theorem pc148 : PC Try.prog 148 C148 := pc_of (g := g148) (fun f F h => by cases h) ⟨Try.f148, Try.func148, by kernel_rfl, by kernel_rfl⟩ fun x y h => w148 h

noncomputable def C149 : List AV → Option AV := specP (X := (List Int) × Int × Unit) fun x => spec_l7Has x.1 x.2.1
theorem C149_eq {list n_} {y} (h : spec_l7Has list n_ = some y) : C149 [av .shr list, av .shr n_] = some (Res.res y) := specP_eq (X := (List Int) × Int × Unit) (F := fun x => spec_l7Has x.1 x.2.1) (x := (list, n_, ())) h
noncomputable def g149 : Cfg := { P := Try.prog, take := [], keep := [], gho := [], ctx := [(148, C148)] }
@[simp] theorem g149_P : g149.P = Try.prog := rfl
@[simp] theorem g149_t : g149.take = [] := rfl
@[simp] theorem g149_g : g149.gho = [] := rfl
@[simp] theorem g149_148 : lookN 148 g149.ctx = some C148 := rfl
set_option maxHeartbeats 4000000 in
set_option maxRecDepth 100000 in
theorem w149 {list n_} {y} (hp : spec_l7Has list n_ = some y) : ∃ m, callo g149 0 149 [av .shr list, av .shr n_] mem0 = some (Res.res y, m) := by
  refine start_fn (Try.f149.body.getD .skip) [.tmp 4] rfl rfl Try.func149 (by kernel_rfl) (by kernel_rfl) (by simp [Try.ntmps149]) rfl ?_
  unfold spec_l7Has at hp
  obtain ⟨y_1, h_2, hp⟩ := bind_some hp
  have c_3 := C148_eq h_2
  simp at c_3
  cases hp
  simp [Try.f149, Goal, FnEnd, c_3]
theorem pc149 : PC Try.prog 149 C149 := pc_of (g := g149) (ctxOK_of [(148, C148)] rfl ⟨pc148, trivial⟩) ⟨Try.f149, Try.func149, by kernel_rfl, by kernel_rfl⟩ fun x y h => w149 h

noncomputable def C150 : List AV → Option AV := specP (X := THeap × Int × Unit) fun x => spec_Followed x.1 x.2.1
theorem C150_eq {h_ cell} {y} (h : spec_Followed h_ cell = some y) : C150 [av .shr h_, av .shr cell] = some (Res.res y) := specP_eq (X := THeap × Int × Unit) (F := fun x => spec_Followed x.1 x.2.1) (x := (h_, cell, ())) h
noncomputable def g150 : Cfg := { P := Try.prog, take := [(150, 23), (150, 32)], keep := [((150, 2), { hd := [1, 2, 5], bx := [], ex := [5], rt := [4] })], gho := [], ctx := [(45, C45), (149, C149)] }
@[simp] theorem g150_P : g150.P = Try.prog := rfl
@[simp] theorem g150_t : g150.take = [(150, 23), (150, 32)] := rfl
@[simp] theorem g150_g : g150.gho = [] := rfl
@[simp] theorem g150_45 : lookN 45 g150.ctx = some C45 := rfl
@[simp] theorem g150_149 : lookN 149 g150.ctx = some C149 := rfl
set_option maxHeartbeats 4000000 in
set_option maxRecDepth 100000 in
theorem w150 {h_ cell} {y} (hp : spec_Followed h_ cell = some y) : ∃ m, callo g150 0 150 [av .shr h_, av .shr cell] mem0 = some (Res.res y, m) := by
  refine start_fn (Try.f150.body.getD .skip) [.tmp 4] rfl rfl Try.func150 (by kernel_rfl) (by kernel_rfl) (by simp [Try.ntmps150]) rfl ?_
  unfold spec_Followed at hp
  simp [Try.f150]
  obtain ⟨r_27, h_28, hp⟩ := bind_some hp
  obtain ⟨I_3, I_3_⟩ : ∃ I : Int × (List Int) → St → Prop, I = (fun (s_1 : Int × (List Int)) (σ : St) => σ.env 1 = .one (.s (.int .i64 s_1.1)) ∧ σ.env 2 = .one (.ptr (1, 2) 0) ∧ σ.env 5 = .one (.l .own s_1.2.length (encL s_1.2)) ∧ σ.mem (1, 2) = some [(.l .shr h_.vars.length (encL h_.vars)), (.l .shr h_.next.length (encL h_.next))] ∧ NoBox [(1, 2)] σ.mem) := ⟨_, rfl⟩
  obtain ⟨X_4, X_4_⟩ : ∃ X : (((List Int)) ⊕ (Unit)) → Out → Prop, X = (fun (r_27 : ((List Int)) ⊕ (Unit)) (out : Out) => Sum.elim (fun r_27 => ∃ σ : St, out = .exit 0 σ ∧ σ.env 5 = .one (.l .own r_27.length (encL r_27)) ∧ σ.mem (1, 2) = some [(.l .shr h_.vars.length (encL h_.vars)), (.l .shr h_.next.length (encL h_.next))] ∧ NoBox [(1, 2)] σ.mem) (fun r_27 => ∃ σ : St, out = .ret σ ∧ σ.env 4 = .one (.l .own 0 []) ∧ σ.mem (1, 2) = some [(.l .shr h_.vars.length (encL h_.vars)), (.l .shr h_.next.length (encL h_.next))] ∧ NoBox [(1, 2)] σ.mem) r_27) := ⟨_, rfl⟩
  refine loopP ({ hd := [1, 2, 5], bx := [], ex := [5], rt := [4] }) I_3 X_4 h_28 (by exact rfl) ?_ ?_ ?_
  · rw [I_3_]
    exact ⟨by simp [restrict_env], by simp [restrict_env], by simp [restrict_env], by simp [restrict_mem], NoBox.restrict (by intro k hk hb; simp at hk hb; simp [hk, hb])⟩
  · intro s_1 σ_5 a_2 hI hp
    rw [I_3_] at hI
    obtain ⟨q_6, q_7, q_8, q_9, hn_10⟩ := hI
    try simp [q_6, q_7, q_8, q_9]
    rcases cond_cases hp with ⟨h_11, hp⟩ | ⟨h_11, hp⟩
    · try simp at h_11
      obtain ⟨y_12, h_13, hp⟩ := bind_some hp
      have c_14 := C149_eq h_13
      simp at c_14
      try simp [q_6, q_7, q_8, q_9, h_11, c_14]
      rcases cond_cases hp with ⟨h_15, hp⟩ | ⟨h_15, hp⟩
      · try simp at h_15
        cases hp
        try simp [q_6, q_7, q_8, q_9, h_11, h_15]
        refine goal_outX ?_
        rw [X_4_]
        exact ⟨_, rfl, by simp [restrict_env, q_6, q_7, q_8, q_9, h_11, h_15], by simp [restrict_mem, q_6, q_7, q_8, q_9, h_11, h_15], NoBox.restrict (by intro k hk hb; simp at hk hb; simp [hk, hb, q_6, q_7, q_8, q_9, h_11, h_15, hn_10 k (by simp [hk, hb])])⟩
      · try simp at h_15
        obtain ⟨y_16, h_17, hp⟩ := bind_some hp
        have c_18 := C45_eq h_17
        simp at c_18
        try simp [q_6, q_7, q_8, q_9, h_11, h_15, c_18]
        rcases cond_cases hp with ⟨h_19, hp⟩ | ⟨h_19, hp⟩
        · try simp at h_19
          obtain ⟨_, h_20, hp⟩ := bind_some hp
          have b_21 := room_ok h_20
          try simp at b_21
          obtain ⟨e_22, h_23, hp⟩ := bind_some hp
          have b_24 := at_lo h_23
          have b_25 := at_hi h_23
          try simp at b_24
          try simp at b_25
          have c_26 := seg_at' h_23 0 1 (by decide) (ds := [.sc (.int .i64 e_22)]) rfl
          try simp at c_26
          cases hp
          try simp [q_6, q_7, q_8, q_9, h_11, h_15, h_19, b_21, b_24, b_25, c_26]
          refine goal_next ?_
          rw [I_3_]
          exact ⟨by simp [restrict_env, q_6, q_7, q_8, q_9, h_11, h_15, h_19, b_21, b_24, b_25, c_26], by simp [restrict_env, q_6, q_7, q_8, q_9, h_11, h_15, h_19, b_21, b_24, b_25, c_26], by simp [restrict_env, q_6, q_7, q_8, q_9, h_11, h_15, h_19, b_21, b_24, b_25, c_26], by simp [restrict_mem, q_6, q_7, q_8, q_9, h_11, h_15, h_19, b_21, b_24, b_25, c_26], NoBox.restrict (by intro k hk hb; simp at hk hb; simp [hk, hb, q_6, q_7, q_8, q_9, h_11, h_15, h_19, b_21, b_24, b_25, c_26, hn_10 k (by simp [hk, hb])])⟩
        · try simp at h_19
          cases hp
          try simp [q_6, q_7, q_8, q_9, h_11, h_15, h_19]
          refine goal_outR ?_
          rw [X_4_]
          exact ⟨_, rfl, by simp [restrict_env, q_6, q_7, q_8, q_9, h_11, h_15, h_19], by simp [restrict_mem, q_6, q_7, q_8, q_9, h_11, h_15, h_19], NoBox.restrict (by intro k hk hb; simp at hk hb; simp [hk, hb, q_6, q_7, q_8, q_9, h_11, h_15, h_19, hn_10 k (by simp [hk, hb])])⟩
    · try simp at h_11
      cases hp
      try simp [q_6, q_7, q_8, q_9, h_11]
      refine goal_outX ?_
      rw [X_4_]
      exact ⟨_, rfl, by simp [restrict_env, q_6, q_7, q_8, q_9, h_11], by simp [restrict_mem, q_6, q_7, q_8, q_9, h_11], NoBox.restrict (by intro k hk hb; simp at hk hb; simp [hk, hb, q_6, q_7, q_8, q_9, h_11, hn_10 k (by simp [hk, hb])])⟩
  · intro out hX
    rw [X_4_] at hX
    rcases r_27 with r_27 | r_27
    · simp only [Sum.elim_inl, Sum.elim_inr] at hX hp
      obtain ⟨σ_29, rfl, q_30, q_31, hn_32⟩ := hX
      cases hp
      simp [Goal, FnEnd, q_30, q_31]
    · simp only [Sum.elim_inl, Sum.elim_inr] at hX hp
      obtain ⟨σ_33, rfl, q_34, q_35, hn_36⟩ := hX
      cases hp
      simp [Goal, FnEnd, q_34, q_35]
theorem pc150 : PC Try.prog 150 C150 := pc_of (g := g150) (ctxOK_of [(45, C45), (149, C149)] rfl ⟨pc45, pc149, trivial⟩) ⟨Try.f150, Try.func150, by kernel_rfl, by kernel_rfl⟩ fun x y h => w150 h
end Go.Proofs
