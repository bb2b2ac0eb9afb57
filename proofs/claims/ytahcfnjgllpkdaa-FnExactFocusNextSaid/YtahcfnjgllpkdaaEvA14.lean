import Derived.Test.YtahcfnjgllpkdaaEvA13
set_option linter.unusedSimpArgs false
set_option linter.unusedVariables false
set_option linter.unnecessarySimpa false
namespace Go.Proofs
open Go.Ev
noncomputable def C67 : List AV → Option AV := specP (X := (List Int) × Int × Unit) fun x => laws_szIntS x.1 x.2.1
theorem C67_eq {a_ left} {y} (h : laws_szIntS a_ left = some y) : C67 [av .shr a_, av .shr left] = some (Res.res y) := specP_eq (X := (List Int) × Int × Unit) (F := fun x => laws_szIntS x.1 x.2.1) (x := (a_, left, ())) h
noncomputable def g67 : Cfg := { P := Try.prog, take := [], keep := [], gho := [], ctx := [] }
@[simp] theorem g67_P : g67.P = Try.prog := rfl
@[simp] theorem g67_t : g67.take = [] := rfl
@[simp] theorem g67_g : g67.gho = [] := rfl
@[simp] theorem g67_r : g67.ro = [] := rfl
@[simp] theorem g67_w : g67.away = [] := by rw [g67]
set_option maxHeartbeats 4000000 in
set_option maxRecDepth 100000 in
theorem w67 {a_ left} {y} (hp : laws_szIntS a_ left = some y) : ∃ m, callo g67 0 67 [av .shr a_, av .shr left] mem0 = some (Res.res y, m) := by
  refine start_fn (Try.f67.body.getD .skip) [.tmp 4] rfl rfl Try.func67 (by kernel_rfl) (by kernel_rfl) (by simp [Try.ntmps67]) rfl ?_
  unfold laws_szIntS at hp
  simp [Try.f67]
  rcases cond_cases hp with ⟨h_1, hp⟩ | ⟨h_1, hp⟩
  · try simp at h_1
    cases hp
    simp [Goal, FnEnd, h_1]
  · try simp at h_1
    cases hp
    simp [Goal, FnEnd, h_1]
theorem pc67 : PC Try.prog 67 C67 := pc_of (g := g67) (fun f F h => by cases h) ⟨Try.f67, Try.func67, by kernel_rfl, by kernel_rfl⟩ fun x y h => w67 h

noncomputable def C121 : List AV → Option AV := specP (X := TNode × Int × Unit) fun x => laws_szNode x.1 x.2.1
theorem C121_eq {a_ left} {y} (h : laws_szNode a_ left = some y) : C121 [av .shr a_, av .shr left] = some (Res.res y) := specP_eq (X := TNode × Int × Unit) (F := fun x => laws_szNode x.1 x.2.1) (x := (a_, left, ())) h
noncomputable def g121 : Cfg := { P := Try.prog, take := [], keep := [], gho := [], ctx := [(67, C67)] }
@[simp] theorem g121_P : g121.P = Try.prog := rfl
@[simp] theorem g121_t : g121.take = [] := rfl
@[simp] theorem g121_g : g121.gho = [] := rfl
@[simp] theorem g121_r : g121.ro = [] := rfl
@[simp] theorem g121_w : g121.away = [] := by rw [g121]
@[simp] theorem g121_67 : lookN 67 g121.ctx = some C67 := rfl
set_option maxHeartbeats 4000000 in
set_option maxRecDepth 100000 in
theorem w121 {a_ left} {y} (hp : laws_szNode a_ left = some y) : ∃ m, callo g121 0 121 [av .shr a_, av .shr left] mem0 = some (Res.res y, m) := by
  refine start_fn (Try.f121.body.getD .skip) [.tmp 4] rfl rfl Try.func121 (by kernel_rfl) (by kernel_rfl) (by simp [Try.ntmps121]) rfl ?_
  unfold laws_szNode at hp
  obtain ⟨y_1, h_2, hp⟩ := bind_some hp
  have c_3 := C67_eq h_2
  simp at c_3
  simp [Try.f121, c_3]
  rcases cond_cases hp with ⟨h_4, hp⟩ | ⟨h_4, hp⟩
  · try simp at h_4
    cases hp
    simp [Goal, FnEnd, h_4]
  · try simp at h_4
    obtain ⟨y_5, h_6, hp⟩ := bind_some hp
    have c_7 := C67_eq h_6
    simp at c_7
    try simp [h_4, c_7]
    rcases cond_cases hp with ⟨h_8, hp⟩ | ⟨h_8, hp⟩
    · try simp at h_8
      cases hp
      simp [Goal, FnEnd, h_4, h_8]
    · try simp at h_8
      cases hp
      simp [Goal, FnEnd, h_4, h_8]
theorem pc121 : PC Try.prog 121 C121 := pc_of (g := g121) (ctxOK_of [(67, C67)] rfl ⟨pc67, trivial⟩) ⟨Try.f121, Try.func121, by kernel_rfl, by kernel_rfl⟩ fun x y h => w121 h

noncomputable def C66 : List AV → Option AV := specP (X := (List TNode) × Int × Unit) fun x => laws_szNodeS x.1 x.2.1
theorem C66_eq {a_ left} {y} (h : laws_szNodeS a_ left = some y) : C66 [av .shr a_, av .shr left] = some (Res.res y) := specP_eq (X := (List TNode) × Int × Unit) (F := fun x => laws_szNodeS x.1 x.2.1) (x := (a_, left, ())) h
noncomputable def g66 : Cfg := { P := Try.prog, take := [], keep := [((66, 5), { hd := [0, 1, 5], bx := [], ex := [1], rt := [4] })], gho := [], ctx := [(121, C121)] }
@[simp] theorem g66_P : g66.P = Try.prog := rfl
@[simp] theorem g66_t : g66.take = [] := rfl
@[simp] theorem g66_g : g66.gho = [] := rfl
@[simp] theorem g66_r : g66.ro = [] := rfl
@[simp] theorem g66_w : g66.away = [] := by rw [g66]
@[simp] theorem g66_121 : lookN 121 g66.ctx = some C121 := rfl
set_option maxHeartbeats 4000000 in
set_option maxRecDepth 100000 in
theorem w66 {a_ left} {y} (hp : laws_szNodeS a_ left = some y) : ∃ m, callo g66 0 66 [av .shr a_, av .shr left] mem0 = some (Res.res y, m) := by
  refine start_fn (Try.f66.body.getD .skip) [.tmp 4] rfl rfl Try.func66 (by kernel_rfl) (by kernel_rfl) (by simp [Try.ntmps66]) rfl ?_
  unfold laws_szNodeS at hp
  simp [Try.f66]
  rcases cond_cases hp with ⟨h_1, hp⟩ | ⟨h_1, hp⟩
  · try simp at h_1
    cases hp
    simp [Goal, FnEnd, h_1]
  · try simp at h_1
    try simp [h_1]
    obtain ⟨r_21, h_22, hp⟩ := bind_some hp
    obtain ⟨I_4, I_4_⟩ : ∃ I : Int × Int → St → Prop, I = (fun (s_2 : Int × Int) (σ : St) => σ.env 0 = .one (.l .shr a_.length (encL a_)) ∧ σ.env 1 = .one (.s (.int .i64 s_2.1)) ∧ σ.env 5 = .one (.s (.int .i64 s_2.2)) ∧ σ.mem = mem0) := ⟨_, rfl⟩
    obtain ⟨X_5, X_5_⟩ : ∃ X : ((Int) ⊕ (Int)) → Out → Prop, X = (fun (r_21 : (Int) ⊕ (Int)) (out : Out) => Sum.elim (fun r_21 => ∃ σ : St, out = .ret σ ∧ σ.env 4 = .one (.s (.int .i64 r_21)) ∧ σ.mem = mem0) (fun r_21 => ∃ σ : St, out = .exit 0 σ ∧ σ.env 1 = .one (.s (.int .i64 r_21)) ∧ σ.mem = mem0) r_21) := ⟨_, rfl⟩
    refine loopP ({ hd := [0, 1, 5], bx := [], ex := [1], rt := [4] }) I_4 X_5 h_22 (by exact rfl) ?_ ?_ ?_
    · rw [I_4_]
      exact ⟨by simp [restrict_env, h_1], by simp [restrict_env, h_1], by simp [restrict_env, h_1], by simp [restrict_mem, h_1]⟩
    · intro s_2 σ_6 a_3 hI hp
      rw [I_4_] at hI
      obtain ⟨q_7, q_8, q_9, q_10⟩ := hI
      try simp [h_1, q_7, q_8, q_9, q_10]
      rcases cond_cases hp with ⟨h_11, hp⟩ | ⟨h_11, hp⟩
      · try simp at h_11
        obtain ⟨e_12, h_13, hp⟩ := bind_some hp
        have b_14 := at_lo h_13
        have b_15 := at_hi h_13
        try simp at b_14
        try simp at b_15
        have c_16 := seg_at' h_13 0 4 (by decide) (ds := [.sl e_12.vars.length (encL e_12.vars), .sl e_12.reach.length (encL e_12.reach), .sc (.int .i64 e_12.shared), .sc (.int .i64 e_12.many)]) rfl
        try simp at c_16
        obtain ⟨y_17, h_18, hp⟩ := bind_some hp
        have c_19 := C121_eq h_18
        simp at c_19
        try simp [h_1, q_7, q_8, q_9, q_10, h_11, b_14, b_15, c_16, c_19]
        rcases cond_cases hp with ⟨h_20, hp⟩ | ⟨h_20, hp⟩
        · try simp at h_20
          cases hp
          try simp [h_1, q_7, q_8, q_9, q_10, h_11, h_20]
          refine goal_outR ?_
          rw [X_5_]
          exact ⟨_, rfl, by simp [restrict_env, h_1, q_7, q_8, q_9, q_10, h_11, h_20], by simp [restrict_mem, h_1, q_7, q_8, q_9, q_10, h_11, h_20]⟩
        · try simp at h_20
          cases hp
          try simp [h_1, q_7, q_8, q_9, q_10, h_11, h_20]
          refine goal_next ?_
          rw [I_4_]
          exact ⟨by simp [restrict_env, h_1, q_7, q_8, q_9, q_10, h_11, h_20], by simp [restrict_env, h_1, q_7, q_8, q_9, q_10, h_11, h_20], by simp [restrict_env, h_1, q_7, q_8, q_9, q_10, h_11, h_20], by simp [restrict_mem, h_1, q_7, q_8, q_9, q_10, h_11, h_20]⟩
      · try simp at h_11
        cases hp
        try simp [h_1, q_7, q_8, q_9, q_10, h_11]
        refine goal_outX ?_
        rw [X_5_]
        exact ⟨_, rfl, by simp [restrict_env, h_1, q_7, q_8, q_9, q_10, h_11], by simp [restrict_mem, h_1, q_7, q_8, q_9, q_10, h_11]⟩
    · intro out hX
      rw [X_5_] at hX
      rcases r_21 with r_21 | r_21
      · simp only [Sum.elim_inl, Sum.elim_inr] at hX hp
        obtain ⟨σ_23, rfl, q_24, q_25⟩ := hX
        cases hp
        simp [Goal, FnEnd, h_1, q_24, q_25]
      · simp only [Sum.elim_inl, Sum.elim_inr] at hX hp
        obtain ⟨σ_26, rfl, q_27, q_28⟩ := hX
        cases hp
        simp [Goal, FnEnd, h_1, q_27, q_28]
theorem pc66 : PC Try.prog 66 C66 := pc_of (g := g66) (ctxOK_of [(121, C121)] rfl ⟨pc121, trivial⟩) ⟨Try.f66, Try.func66, by kernel_rfl, by kernel_rfl⟩ fun x y h => w66 h

noncomputable def C19 : List AV → Option AV := specP (X := TStructure × Int × Unit) fun x => laws_szStructure x.1 x.2.1
theorem C19_eq {a_ left} {y} (h : laws_szStructure a_ left = some y) : C19 [av .shr a_, av .shr left] = some (Res.res y) := specP_eq (X := TStructure × Int × Unit) (F := fun x => laws_szStructure x.1 x.2.1) (x := (a_, left, ())) h
noncomputable def g19 : Cfg := { P := Try.prog, take := [], keep := [], gho := [], ctx := [(66, C66), (67, C67)] }
@[simp] theorem g19_P : g19.P = Try.prog := rfl
@[simp] theorem g19_t : g19.take = [] := rfl
@[simp] theorem g19_g : g19.gho = [] := rfl
@[simp] theorem g19_r : g19.ro = [] := rfl
@[simp] theorem g19_w : g19.away = [] := by rw [g19]
@[simp] theorem g19_66 : lookN 66 g19.ctx = some C66 := rfl
@[simp] theorem g19_67 : lookN 67 g19.ctx = some C67 := rfl
set_option maxHeartbeats 4000000 in
set_option maxRecDepth 100000 in
theorem w19 {a_ left} {y} (hp : laws_szStructure a_ left = some y) : ∃ m, callo g19 0 19 [av .shr a_, av .shr left] mem0 = some (Res.res y, m) := by
  refine start_fn (Try.f19.body.getD .skip) [.tmp 4] rfl rfl Try.func19 (by kernel_rfl) (by kernel_rfl) (by simp [Try.ntmps19]) rfl ?_
  unfold laws_szStructure at hp
  obtain ⟨y_1, h_2, hp⟩ := bind_some hp
  have c_3 := C66_eq h_2
  simp at c_3
  simp [Try.f19, c_3]
  rcases cond_cases hp with ⟨h_4, hp⟩ | ⟨h_4, hp⟩
  · try simp at h_4
    cases hp
    simp [Goal, FnEnd, h_4]
  · try simp at h_4
    obtain ⟨y_5, h_6, hp⟩ := bind_some hp
    have c_7 := C67_eq h_6
    simp at c_7
    try simp [h_4, c_7]
    rcases cond_cases hp with ⟨h_8, hp⟩ | ⟨h_8, hp⟩
    · try simp at h_8
      cases hp
      simp [Goal, FnEnd, h_4, h_8]
    · try simp at h_8
      cases hp
      simp [Goal, FnEnd, h_4, h_8]
theorem pc19 : PC Try.prog 19 C19 := pc_of (g := g19) (ctxOK_of [(66, C66), (67, C67)] rfl ⟨pc66, pc67, trivial⟩) ⟨Try.f19, Try.func19, by kernel_rfl, by kernel_rfl⟩ fun x y h => w19 h

noncomputable def C76 : List AV → Option AV := specP (X := (List Int) × Unit) fun x => laws_toIntS x.1
theorem C76_eq {a_} {y} (h : laws_toIntS a_ = some y) : C76 [av .shr a_] = some (Res.res y) := specP_eq (X := (List Int) × Unit) (F := fun x => laws_toIntS x.1) (x := (a_, ())) h
noncomputable def g76 : Cfg := { P := Try.prog, take := [(76, 7)], keep := [((76, 3), { hd := [0, 3, 4], bx := [], ex := [3], rt := [2] })], gho := [((76, atEnd), [.frz (.sl 2 0)])], ctx := [] }
@[simp] theorem g76_P : g76.P = Try.prog := rfl
@[simp] theorem g76_t : g76.take = [(76, 7)] := rfl
@[simp] theorem g76_g : g76.gho = [((76, atEnd), [.frz (.sl 2 0)])] := rfl
@[simp] theorem g76_r : g76.ro = [] := rfl
@[simp] theorem g76_w : g76.away = [] := by rw [g76]
set_option maxHeartbeats 4000000 in
set_option maxRecDepth 100000 in
theorem w76 {a_} {y} (hp : laws_toIntS a_ = some y) : ∃ m, callo g76 0 76 [av .shr a_] mem0 = some (Res.res y, m) := by
  refine start_fn (Try.f76.body.getD .skip) [.tmp 2] rfl rfl Try.func76 (by kernel_rfl) (by kernel_rfl) (by simp [Try.ntmps76]) rfl ?_
  unfold laws_toIntS at hp
  obtain ⟨_, h_1, hp⟩ := bind_some hp
  have b_2 := roomI_lo h_1
  have b_3 := roomI_ok h_1
  try simp at b_2
  try simp at b_3
  have r_4 := row_replicate (a_.length : Int).toNat (0 : Int) (by rfl)
  try simp at r_4
  simp [Try.f76, b_2, b_3, r_4]
  obtain ⟨r_27, h_28, hp⟩ := bind_some hp
  obtain ⟨I_7, I_7_⟩ : ∃ I : Int × (List Int) → St → Prop, I = (fun (s_5 : Int × (List Int)) (σ : St) => σ.env 0 = .one (.l .shr a_.length (encL a_)) ∧ σ.env 3 = .one (.bs (1, 7) s_5.2.length 1) ∧ σ.env 4 = .one (.s (.int .i64 s_5.1)) ∧ σ.mem (1, 7) = some (rowC s_5.2) ∧ NoBox [(1, 7)] σ.mem) := ⟨_, rfl⟩
  obtain ⟨X_8, X_8_⟩ : ∃ X : (List Int) → Out → Prop, X = (fun (r_27 : (List Int)) (out : Out) => ∃ σ : St, out = .exit 0 σ ∧ σ.env 3 = .one (.bs (1, 7) r_27.length 1) ∧ σ.mem (1, 7) = some (rowC r_27) ∧ NoBox [(1, 7)] σ.mem) := ⟨_, rfl⟩
  refine loopP ({ hd := [0, 3, 4], bx := [], ex := [3], rt := [2] }) I_7 X_8 h_28 (by exact rfl) ?_ ?_ ?_
  · rw [I_7_]
    exact ⟨by simp [restrict_env], by simp [restrict_env], by simp [restrict_env], by simp [restrict_mem], NoBox.restrict (by intro k hk hb; simp at hk hb; simp [hk, hb])⟩
  · intro s_5 σ_9 a_6 hI hp
    rw [I_7_] at hI
    obtain ⟨q_10, q_11, q_12, q_13, hn_14⟩ := hI
    try simp [q_10, q_11, q_12, q_13]
    rcases cond_cases hp with ⟨h_15, hp⟩ | ⟨h_15, hp⟩
    · try simp at h_15
      obtain ⟨e_16, h_17, hp⟩ := bind_some hp
      have b_18 := at_lo h_17
      have b_19 := at_hi h_17
      try simp at b_18
      try simp at b_19
      have c_20 := seg_at' h_17 0 1 (by decide) (ds := [.sc (.int .i64 e_16)]) rfl
      try simp at c_20
      obtain ⟨e_21, h_22, hp⟩ := bind_some hp
      have b_23 := at_lo h_22
      have b_24 := at_hi h_22
      try simp at b_23
      try simp at b_24
      have c_25 := splice_row h_22 0 e_16 [(.s (.int .i64 e_16))] (by simp) rfl
      try simp at c_25
      have l_26 := row_room h_22 0 (m := 1) (by decide)
      try simp at l_26
      cases hp
      try simp [q_10, q_11, q_12, q_13, h_15, b_18, b_19, c_20, b_23, b_24, c_25, l_26]
      refine goal_next ?_
      rw [I_7_]
      exact ⟨by simp [restrict_env, q_10, q_11, q_12, q_13, h_15, b_18, b_19, c_20, b_23, b_24, c_25, l_26], by simp [restrict_env, q_10, q_11, q_12, q_13, h_15, b_18, b_19, c_20, b_23, b_24, c_25, l_26], by simp [restrict_env, q_10, q_11, q_12, q_13, h_15, b_18, b_19, c_20, b_23, b_24, c_25, l_26], by simp [restrict_mem, q_10, q_11, q_12, q_13, h_15, b_18, b_19, c_20, b_23, b_24, c_25, l_26], NoBox.restrict (by intro k hk hb; simp at hk hb; simp [hk, hb, q_10, q_11, q_12, q_13, h_15, b_18, b_19, c_20, b_23, b_24, c_25, l_26, hn_14 k (by simp [hk, hb])])⟩
    · try simp at h_15
      cases hp
      try simp [q_10, q_11, q_12, q_13, h_15]
      refine goal_outX ?_
      rw [X_8_]
      exact ⟨_, rfl, by simp [restrict_env, q_10, q_11, q_12, q_13, h_15], by simp [restrict_mem, q_10, q_11, q_12, q_13, h_15], NoBox.restrict (by intro k hk hb; simp at hk hb; simp [hk, hb, q_10, q_11, q_12, q_13, h_15, hn_14 k (by simp [hk, hb])])⟩
  · intro out hX
    rw [X_8_] at hX
    obtain ⟨σ_29, rfl, q_30, q_31, hn_32⟩ := hX
    cases hp
    simp [Goal, FnEnd, q_30, q_31]
theorem pc76 : PC Try.prog 76 C76 := pc_of (g := g76) (fun f F h => by cases h) ⟨Try.f76, Try.func76, by kernel_rfl, by kernel_rfl⟩ fun x y h => w76 h

noncomputable def C126 : List AV → Option AV := specP (X := TNode × Unit) fun x => laws_toNode x.1
theorem C126_eq {a_} {y} (h : laws_toNode a_ = some y) : C126 [av .shr a_] = some (Res.res y) := specP_eq (X := TNode × Unit) (F := fun x => laws_toNode x.1) (x := (a_, ())) h
noncomputable def g126 : Cfg := { P := Try.prog, take := [(126, 18)], keep := [], gho := [], ctx := [(76, C76)] }
@[simp] theorem g126_P : g126.P = Try.prog := rfl
@[simp] theorem g126_t : g126.take = [(126, 18)] := rfl
@[simp] theorem g126_g : g126.gho = [] := rfl
@[simp] theorem g126_r : g126.ro = [] := rfl
@[simp] theorem g126_w : g126.away = [] := by rw [g126]
@[simp] theorem g126_76 : lookN 76 g126.ctx = some C76 := rfl
set_option maxHeartbeats 4000000 in
set_option maxRecDepth 100000 in
theorem w126 {a_} {y} (hp : laws_toNode a_ = some y) : ∃ m, callo g126 0 126 [av .shr a_] mem0 = some (Res.res y, m) := by
  refine start_fn (Try.f126.body.getD .skip) [.cell 2 104] rfl rfl Try.func126 (by kernel_rfl) (by kernel_rfl) (by simp [Try.ntmps126]) rfl ?_
  unfold laws_toNode at hp
  obtain ⟨y_1, h_2, hp⟩ := bind_some hp
  have c_3 := C76_eq h_2
  simp at c_3
  obtain ⟨y_4, h_5, hp⟩ := bind_some hp
  have c_6 := C76_eq h_5
  simp at c_6
  cases hp
  simp [Try.f126, Goal, FnEnd, retR, rsrc, RSrc.val, nodupR, nodup, tupPart, c_3, c_6]
theorem pc126 : PC Try.prog 126 C126 := pc_of (g := g126) (ctxOK_of [(76, C76)] rfl ⟨pc76, trivial⟩) ⟨Try.f126, Try.func126, by kernel_rfl, by kernel_rfl⟩ fun x y h => w126 h

noncomputable def C75 : List AV → Option AV := specP (X := (List TNode) × Unit) fun x => laws_toNodeS x.1
theorem C75_eq {a_} {y} (h : laws_toNodeS a_ = some y) : C75 [av .shr a_] = some (Res.res y) := specP_eq (X := (List TNode) × Unit) (F := fun x => laws_toNodeS x.1) (x := (a_, ())) h
noncomputable def g75 : Cfg := { P := Try.prog, take := [(75, 7)], keep := [((75, 3), { hd := [0, 3, 4], bx := [], ex := [3], rt := [2] })], gho := [((75, atEnd), [.frz (.sl 2 0)])], ctx := [(126, C126)] }
@[simp] theorem g75_P : g75.P = Try.prog := rfl
@[simp] theorem g75_t : g75.take = [(75, 7)] := rfl
@[simp] theorem g75_g : g75.gho = [((75, atEnd), [.frz (.sl 2 0)])] := rfl
@[simp] theorem g75_r : g75.ro = [] := rfl
@[simp] theorem g75_w : g75.away = [] := by rw [g75]
@[simp] theorem g75_126 : lookN 126 g75.ctx = some C126 := rfl
set_option maxHeartbeats 4000000 in
set_option maxRecDepth 100000 in
theorem w75 {a_} {y} (hp : laws_toNodeS a_ = some y) : ∃ m, callo g75 0 75 [av .shr a_] mem0 = some (Res.res y, m) := by
  refine start_fn (Try.f75.body.getD .skip) [.tmp 2] rfl rfl Try.func75 (by kernel_rfl) (by kernel_rfl) (by simp [Try.ntmps75]) rfl ?_
  unfold laws_toNodeS at hp
  obtain ⟨_, h_1, hp⟩ := bind_some hp
  have b_2 := roomI_lo h_1
  have b_3 := roomI_ok h_1
  try simp at b_2
  try simp at b_3
  have r_4 := row_replicate (a_.length : Int).toNat ((⟨[], [], 0, 0⟩ : TNode) : TNode) (by rfl)
  try simp at r_4
  simp [Try.f75, b_2, b_3, r_4]
  obtain ⟨r_30, h_31, hp⟩ := bind_some hp
  obtain ⟨I_7, I_7_⟩ : ∃ I : Int × (List TNode) → St → Prop, I = (fun (s_5 : Int × (List TNode)) (σ : St) => σ.env 0 = .one (.l .shr a_.length (encL a_)) ∧ σ.env 3 = .one (.bs (1, 7) s_5.2.length 4) ∧ σ.env 4 = .one (.s (.int .i64 s_5.1)) ∧ σ.mem (1, 7) = some (rowC s_5.2) ∧ NoBox [(1, 7)] σ.mem) := ⟨_, rfl⟩
  obtain ⟨X_8, X_8_⟩ : ∃ X : (List TNode) → Out → Prop, X = (fun (r_30 : (List TNode)) (out : Out) => ∃ σ : St, out = .exit 0 σ ∧ σ.env 3 = .one (.bs (1, 7) r_30.length 4) ∧ σ.mem (1, 7) = some (rowC r_30) ∧ NoBox [(1, 7)] σ.mem) := ⟨_, rfl⟩
  refine loopP ({ hd := [0, 3, 4], bx := [], ex := [3], rt := [2] }) I_7 X_8 h_31 (by exact rfl) ?_ ?_ ?_
  · rw [I_7_]
    exact ⟨by simp [restrict_env], by simp [restrict_env], by simp [restrict_env], by simp [restrict_mem], NoBox.restrict (by intro k hk hb; simp at hk hb; simp [hk, hb])⟩
  · intro s_5 σ_9 a_6 hI hp
    rw [I_7_] at hI
    obtain ⟨q_10, q_11, q_12, q_13, hn_14⟩ := hI
    try simp [q_10, q_11, q_12, q_13]
    rcases cond_cases hp with ⟨h_15, hp⟩ | ⟨h_15, hp⟩
    · try simp at h_15
      obtain ⟨e_16, h_17, hp⟩ := bind_some hp
      have b_18 := at_lo h_17
      have b_19 := at_hi h_17
      try simp at b_18
      try simp at b_19
      have c_20 := seg_at' h_17 0 4 (by decide) (ds := [.sl e_16.vars.length (encL e_16.vars), .sl e_16.reach.length (encL e_16.reach), .sc (.int .i64 e_16.shared), .sc (.int .i64 e_16.many)]) rfl
      try simp at c_20
      obtain ⟨y_21, h_22, hp⟩ := bind_some hp
      have c_23 := C126_eq h_22
      simp at c_23
      obtain ⟨e_24, h_25, hp⟩ := bind_some hp
      have b_26 := at_lo h_25
      have b_27 := at_hi h_25
      try simp at b_26
      try simp at b_27
      have c_28 := splice_row h_25 0 y_21 [(.l .own y_21.vars.length (encL y_21.vars)), (.l .own y_21.reach.length (encL y_21.reach)), (.s (.int .i64 y_21.shared)), (.s (.int .i64 y_21.many))] (by simp) rfl
      try simp at c_28
      have l_29 := row_room h_25 0 (m := 4) (by decide)
      try simp at l_29
      cases hp
      try simp [q_10, q_11, q_12, q_13, h_15, b_18, b_19, c_20, c_23, b_26, b_27, c_28, l_29]
      refine goal_next ?_
      rw [I_7_]
      exact ⟨by simp [restrict_env, q_10, q_11, q_12, q_13, h_15, b_18, b_19, c_20, c_23, b_26, b_27, c_28, l_29], by simp [restrict_env, q_10, q_11, q_12, q_13, h_15, b_18, b_19, c_20, c_23, b_26, b_27, c_28, l_29], by simp [restrict_env, q_10, q_11, q_12, q_13, h_15, b_18, b_19, c_20, c_23, b_26, b_27, c_28, l_29], by simp [restrict_mem, q_10, q_11, q_12, q_13, h_15, b_18, b_19, c_20, c_23, b_26, b_27, c_28, l_29], NoBox.restrict (by intro k hk hb; simp at hk hb; simp [hk, hb, q_10, q_11, q_12, q_13, h_15, b_18, b_19, c_20, c_23, b_26, b_27, c_28, l_29, hn_14 k (by simp [hk, hb])])⟩
    · try simp at h_15
      cases hp
      try simp [q_10, q_11, q_12, q_13, h_15]
      refine goal_outX ?_
      rw [X_8_]
      exact ⟨_, rfl, by simp [restrict_env, q_10, q_11, q_12, q_13, h_15], by simp [restrict_mem, q_10, q_11, q_12, q_13, h_15], NoBox.restrict (by intro k hk hb; simp at hk hb; simp [hk, hb, q_10, q_11, q_12, q_13, h_15, hn_14 k (by simp [hk, hb])])⟩
  · intro out hX
    rw [X_8_] at hX
    obtain ⟨σ_32, rfl, q_33, q_34, hn_35⟩ := hX
    cases hp
    simp [Goal, FnEnd, q_33, q_34]
theorem pc75 : PC Try.prog 75 C75 := pc_of (g := g75) (ctxOK_of [(126, C126)] rfl ⟨pc126, trivial⟩) ⟨Try.f75, Try.func75, by kernel_rfl, by kernel_rfl⟩ fun x y h => w75 h

noncomputable def C21 : List AV → Option AV := specP (X := TStructure × Unit) fun x => laws_toStructure x.1
theorem C21_eq {a_} {y} (h : laws_toStructure a_ = some y) : C21 [av .shr a_] = some (Res.res y) := specP_eq (X := TStructure × Unit) (F := fun x => laws_toStructure x.1) (x := (a_, ())) h
noncomputable def g21 : Cfg := { P := Try.prog, take := [(21, 12)], keep := [], gho := [], ctx := [(75, C75), (76, C76)] }
@[simp] theorem g21_P : g21.P = Try.prog := rfl
@[simp] theorem g21_t : g21.take = [(21, 12)] := rfl
@[simp] theorem g21_g : g21.gho = [] := rfl
@[simp] theorem g21_r : g21.ro = [] := rfl
@[simp] theorem g21_w : g21.away = [] := by rw [g21]
@[simp] theorem g21_75 : lookN 75 g21.ctx = some C75 := rfl
@[simp] theorem g21_76 : lookN 76 g21.ctx = some C76 := rfl
set_option maxHeartbeats 4000000 in
set_option maxRecDepth 100000 in
theorem w21 {a_} {y} (hp : laws_toStructure a_ = some y) : ∃ m, callo g21 0 21 [av .shr a_] mem0 = some (Res.res y, m) := by
  refine start_fn (Try.f21.body.getD .skip) [.cell 2 52] rfl rfl Try.func21 (by kernel_rfl) (by kernel_rfl) (by simp [Try.ntmps21]) rfl ?_
  unfold laws_toStructure at hp
  obtain ⟨y_1, h_2, hp⟩ := bind_some hp
  have c_3 := C75_eq h_2
  simp at c_3
  obtain ⟨y_4, h_5, hp⟩ := bind_some hp
  have c_6 := C76_eq h_5
  simp at c_6
  cases hp
  simp [Try.f21, Goal, FnEnd, retR, rsrc, RSrc.val, nodupR, nodup, tupPart, c_3, c_6]
theorem pc21 : PC Try.prog 21 C21 := pc_of (g := g21) (ctxOK_of [(75, C75), (76, C76)] rfl ⟨pc75, pc76, trivial⟩) ⟨Try.f21, Try.func21, by kernel_rfl, by kernel_rfl⟩ fun x y h => w21 h

noncomputable def C45 : List AV → Option AV := specP (X := Int × Int × Int × Unit) fun x => spec_l1In x.1 x.2.1 x.2.2.1
theorem C45_eq {x_ lo hi} {y} (h : spec_l1In x_ lo hi = some y) : C45 [av .shr x_, av .shr lo, av .shr hi] = some (Res.res y) := specP_eq (X := Int × Int × Int × Unit) (F := fun x => spec_l1In x.1 x.2.1 x.2.2.1) (x := (x_, lo, hi, ())) h
noncomputable def g45 : Cfg := { P := Try.prog, take := [], keep := [], gho := [], ctx := [] }
@[simp] theorem g45_P : g45.P = Try.prog := rfl
@[simp] theorem g45_t : g45.take = [] := rfl
@[simp] theorem g45_g : g45.gho = [] := rfl
@[simp] theorem g45_r : g45.ro = [] := rfl
@[simp] theorem g45_w : g45.away = [] := by rw [g45]
set_option maxHeartbeats 4000000 in
set_option maxRecDepth 100000 in
theorem w45 {x_ lo hi} {y} (hp : spec_l1In x_ lo hi = some y) : ∃ m, callo g45 0 45 [av .shr x_, av .shr lo, av .shr hi] mem0 = some (Res.res y, m) := by
  refine start_fn (Try.f45.body.getD .skip) [.tmp 6] rfl rfl Try.func45 (by kernel_rfl) (by kernel_rfl) (by simp [Try.ntmps45]) rfl ?_
  unfold spec_l1In at hp
  simp [Try.f45]
  rcases cond_cases hp with ⟨h_1, hp⟩ | ⟨h_1, hp⟩
  · try simp at h_1
    cases hp
    simp [Goal, FnEnd, h_1]
  · try simp at h_1
    cases hp
    simp [Goal, FnEnd, h_1]
theorem pc45 : PC Try.prog 45 C45 := pc_of (g := g45) (fun f F h => by cases h) ⟨Try.f45, Try.func45, by kernel_rfl, by kernel_rfl⟩ fun x y h => w45 h

noncomputable def C122 : List AV → Option AV := specP (X := (List Int) × Int × Unit) fun x => spec_l13At x.1 x.2.1
theorem C122_eq {list k_} {y} (h : spec_l13At list k_ = some y) : C122 [av .shr list, av .shr k_] = some (Res.res y) := specP_eq (X := (List Int) × Int × Unit) (F := fun x => spec_l13At x.1 x.2.1) (x := (list, k_, ())) h
noncomputable def g122 : Cfg := { P := Try.prog, take := [], keep := [], gho := [], ctx := [(45, C45)] }
@[simp] theorem g122_P : g122.P = Try.prog := rfl
@[simp] theorem g122_t : g122.take = [] := rfl
@[simp] theorem g122_g : g122.gho = [] := rfl
@[simp] theorem g122_r : g122.ro = [] := rfl
@[simp] theorem g122_w : g122.away = [] := by rw [g122]
@[simp] theorem g122_45 : lookN 45 g122.ctx = some C45 := rfl
set_option maxHeartbeats 4000000 in
set_option maxRecDepth 100000 in
theorem w122 {list k_} {y} (hp : spec_l13At list k_ = some y) : ∃ m, callo g122 0 122 [av .shr list, av .shr k_] mem0 = some (Res.res y, m) := by
  refine start_fn (Try.f122.body.getD .skip) [.tmp 4] rfl rfl Try.func122 (by kernel_rfl) (by kernel_rfl) (by simp [Try.ntmps122]) rfl ?_
  unfold spec_l13At at hp
  obtain ⟨y_1, h_2, hp⟩ := bind_some hp
  have c_3 := C45_eq h_2
  simp at c_3
  simp [Try.f122, c_3]
  rcases cond_cases hp with ⟨h_4, hp⟩ | ⟨h_4, hp⟩
  · try simp at h_4
    obtain ⟨e_5, h_6, hp⟩ := bind_some hp
    have b_7 := at_lo h_6
    have b_8 := at_hi h_6
    try simp at b_7
    try simp at b_8
    have c_9 := seg_at' h_6 0 1 (by decide) (ds := [.sc (.int .i64 e_5)]) rfl
    try simp at c_9
    cases hp
    simp [Goal, FnEnd, h_4, b_7, b_8, c_9]
  · try simp at h_4
    cases hp
    simp [Goal, FnEnd, h_4]
theorem pc122 : PC Try.prog 122 C122 := pc_of (g := g122) (ctxOK_of [(45, C45)] rfl ⟨pc45, trivial⟩) ⟨Try.f122, Try.func122, by kernel_rfl, by kernel_rfl⟩ fun x y h => w122 h

noncomputable def C68 : List AV → Option AV := specP (X := TStructure × Int × Unit) fun x => spec_l19Cell x.1 x.2.1
theorem C68_eq {s k_} {y} (h : spec_l19Cell s k_ = some y) : C68 [av .shr s, av .shr k_] = some (Res.res y) := specP_eq (X := TStructure × Int × Unit) (F := fun x => spec_l19Cell x.1 x.2.1) (x := (s, k_, ())) h
noncomputable def g68 : Cfg := { P := Try.prog, take := [], keep := [((68, 2), { hd := [1, 2, 5], bx := [], ex := [], rt := [4] })], gho := [], ctx := [(122, C122)] }
@[simp] theorem g68_P : g68.P = Try.prog := rfl
@[simp] theorem g68_t : g68.take = [] := rfl
@[simp] theorem g68_g : g68.gho = [] := rfl
@[simp] theorem g68_r : g68.ro = [] := rfl
@[simp] theorem g68_w : g68.away = [] := by rw [g68]
@[simp] theorem g68_122 : lookN 122 g68.ctx = some C122 := rfl
set_option maxHeartbeats 4000000 in
set_option maxRecDepth 100000 in
theorem w68 {s k_} {y} (hp : spec_l19Cell s k_ = some y) : ∃ m, callo g68 0 68 [av .shr s, av .shr k_] mem0 = some (Res.res y, m) := by
  refine start_fn (Try.f68.body.getD .skip) [.tmp 4] rfl rfl Try.func68 (by kernel_rfl) (by kernel_rfl) (by simp [Try.ntmps68]) rfl ?_
  unfold spec_l19Cell at hp
  simp [Try.f68]
  obtain ⟨r_27, h_28, hp⟩ := bind_some hp
  obtain ⟨I_3, I_3_⟩ : ∃ I : Int → St → Prop, I = (fun (s_1 : Int) (σ : St) => σ.env 1 = .one (.s (.int .i64 k_)) ∧ σ.env 2 = .one (.ptr (1, 2) 0) ∧ σ.env 5 = .one (.s (.int .i64 s_1)) ∧ σ.mem (1, 2) = some [(.l .shr s.nodes.length (encL s.nodes)), (.l .shr s.next.length (encL s.next))] ∧ NoBox [(1, 2)] σ.mem) := ⟨_, rfl⟩
  obtain ⟨X_4, X_4_⟩ : ∃ X : ((Int) ⊕ (Unit)) → Out → Prop, X = (fun (r_27 : (Int) ⊕ (Unit)) (out : Out) => Sum.elim (fun r_27 => ∃ σ : St, out = .ret σ ∧ σ.env 4 = .one (.s (.int .i64 r_27)) ∧ σ.mem (1, 2) = some [(.l .shr s.nodes.length (encL s.nodes)), (.l .shr s.next.length (encL s.next))] ∧ NoBox [(1, 2)] σ.mem) (fun r_27 => ∃ σ : St, out = .exit 0 σ ∧ σ.mem (1, 2) = some [(.l .shr s.nodes.length (encL s.nodes)), (.l .shr s.next.length (encL s.next))] ∧ NoBox [(1, 2)] σ.mem) r_27) := ⟨_, rfl⟩
  refine loopP ({ hd := [1, 2, 5], bx := [], ex := [], rt := [4] }) I_3 X_4 h_28 (by exact rfl) ?_ ?_ ?_
  · rw [I_3_]
    exact ⟨by simp [restrict_env], by simp [restrict_env], by simp [restrict_env], by simp [restrict_mem], NoBox.restrict (by intro k hk hb; simp at hk hb; simp [hk, hb])⟩
  · intro s_1 σ_5 a_2 hI hp
    rw [I_3_] at hI
    obtain ⟨q_6, q_7, q_8, q_9, hn_10⟩ := hI
    try simp [q_6, q_7, q_8, q_9]
    rcases cond_cases hp with ⟨h_11, hp⟩ | ⟨h_11, hp⟩
    · try simp at h_11
      obtain ⟨e_12, h_13, hp⟩ := bind_some hp
      have b_14 := at_lo h_13
      have b_15 := at_hi h_13
      try simp at b_14
      try simp at b_15
      have c_16 := seg_at' h_13 0 1 (by decide) (ds := [.sl e_12.vars.length (encL e_12.vars)]) rfl
      try simp at c_16
      obtain ⟨y_17, h_18, hp⟩ := bind_some hp
      have c_19 := C122_eq h_18
      simp at c_19
      try simp [q_6, q_7, q_8, q_9, h_11, b_14, b_15, c_16, c_19]
      rcases cond_cases hp with ⟨h_20, hp⟩ | ⟨h_20, hp⟩
      · try simp at h_20
        obtain ⟨e_21, h_22, hp⟩ := bind_some hp
        cases Option.some.inj (h_13.symm.trans h_22)
        have b_23 := at_lo h_13
        have b_24 := at_hi h_13
        try simp at b_23
        try simp at b_24
        have c_25 := seg_at' h_13 3 1 (by decide) (ds := [.sc (.int .i64 e_12.many)]) rfl
        try simp at c_25
        try simp [q_6, q_7, q_8, q_9, h_11, h_20, b_23, b_24, c_25]
        rcases cond_cases hp with ⟨h_26, hp⟩ | ⟨h_26, hp⟩
        · try simp at h_26
          cases hp
          try simp [q_6, q_7, q_8, q_9, h_11, h_20, h_26]
          refine goal_outR ?_
          rw [X_4_]
          exact ⟨_, rfl, by simp [restrict_env, q_6, q_7, q_8, q_9, h_11, h_20, h_26], by simp [restrict_mem, q_6, q_7, q_8, q_9, h_11, h_20, h_26], NoBox.restrict (by intro k hk hb; simp at hk hb; simp [hk, hb, q_6, q_7, q_8, q_9, h_11, h_20, h_26, hn_10 k (by simp [hk, hb])])⟩
        · try simp at h_26
          cases hp
          try simp [q_6, q_7, q_8, q_9, h_11, h_20, h_26]
          refine goal_next ?_
          rw [I_3_]
          exact ⟨by simp [restrict_env, q_6, q_7, q_8, q_9, h_11, h_20, h_26], by simp [restrict_env, q_6, q_7, q_8, q_9, h_11, h_20, h_26], by simp [restrict_env, q_6, q_7, q_8, q_9, h_11, h_20, h_26], by simp [restrict_mem, q_6, q_7, q_8, q_9, h_11, h_20, h_26], NoBox.restrict (by intro k hk hb; simp at hk hb; simp [hk, hb, q_6, q_7, q_8, q_9, h_11, h_20, h_26, hn_10 k (by simp [hk, hb])])⟩
      · try simp at h_20
        cases hp
        try simp [q_6, q_7, q_8, q_9, h_11, h_20]
        refine goal_next ?_
        rw [I_3_]
        exact ⟨by simp [restrict_env, q_6, q_7, q_8, q_9, h_11, h_20], by simp [restrict_env, q_6, q_7, q_8, q_9, h_11, h_20], by simp [restrict_env, q_6, q_7, q_8, q_9, h_11, h_20], by simp [restrict_mem, q_6, q_7, q_8, q_9, h_11, h_20], NoBox.restrict (by intro k hk hb; simp at hk hb; simp [hk, hb, q_6, q_7, q_8, q_9, h_11, h_20, hn_10 k (by simp [hk, hb])])⟩
    · try simp at h_11
      cases hp
      try simp [q_6, q_7, q_8, q_9, h_11]
      refine goal_outX ?_
      rw [X_4_]
      exact ⟨_, rfl, by simp [restrict_mem, q_6, q_7, q_8, q_9, h_11], NoBox.restrict (by intro k hk hb; simp at hk hb; simp [hk, hb, q_6, q_7, q_8, q_9, h_11, hn_10 k (by simp [hk, hb])])⟩
  · intro out hX
    rw [X_4_] at hX
    rcases r_27 with r_27 | r_27
    · simp only [Sum.elim_inl, Sum.elim_inr] at hX hp
      obtain ⟨σ_29, rfl, q_30, q_31, hn_32⟩ := hX
      cases hp
      simp [Goal, FnEnd, q_30, q_31]
    · simp only [Sum.elim_inl, Sum.elim_inr] at hX hp
      obtain ⟨σ_33, rfl, q_34, hn_35⟩ := hX
      cases hp
      simp [Goal, FnEnd, q_34]
theorem pc68 : PC Try.prog 68 C68 := pc_of (g := g68) (ctxOK_of [(122, C122)] rfl ⟨pc122, trivial⟩) ⟨Try.f68, Try.func68, by kernel_rfl, by kernel_rfl⟩ fun x y h => w68 h

noncomputable def C69 : List AV → Option AV := specP (X := TStructure × Unit) fun x => spec_l15Vars x.1
theorem C69_eq {s} {y} (h : spec_l15Vars s = some y) : C69 [av .shr s] = some (Res.res y) := specP_eq (X := TStructure × Unit) (F := fun x => spec_l15Vars x.1) (x := (s, ())) h
noncomputable def g69 : Cfg := { P := Try.prog, take := [], keep := [], gho := [], ctx := [] }
@[simp] theorem g69_P : g69.P = Try.prog := rfl
@[simp] theorem g69_t : g69.take = [] := rfl
@[simp] theorem g69_g : g69.gho = [] := rfl
@[simp] theorem g69_r : g69.ro = [] := rfl
@[simp] theorem g69_w : g69.away = [] := by rw [g69]
set_option maxHeartbeats 4000000 in
set_option maxRecDepth 100000 in
theorem w69 {s} {y} (hp : spec_l15Vars s = some y) : ∃ m, callo g69 0 69 [av .shr s] mem0 = some (Res.res y, m) := by
  refine start_fn (Try.f69.body.getD .skip) [.tmp 2] rfl rfl Try.func69 (by kernel_rfl) (by kernel_rfl) (by simp [Try.ntmps69]) rfl ?_
  unfold spec_l15Vars at hp
  simp [Try.f69]
  rcases cond_cases hp with ⟨h_1, hp⟩ | ⟨h_1, hp⟩
  · try simp at h_1
    cases hp
    simp [Goal, FnEnd, h_1]
  · try simp at h_1
    obtain ⟨e_2, h_3, hp⟩ := bind_some hp
    have b_5 := at_hi h_3
    try simp at b_5
    have c_6 := seg_at' h_3 0 1 (by decide) (ds := [.sl e_2.vars.length (encL e_2.vars)]) rfl
    try simp at c_6
    cases hp
    simp [Goal, FnEnd, h_1, b_5, c_6]
theorem pc69 : PC Try.prog 69 C69 := pc_of (g := g69) (fun f F h => by cases h) ⟨Try.f69, Try.func69, by kernel_rfl, by kernel_rfl⟩ fun x y h => w69 h

noncomputable def C98 : List AV → Option AV := specP (X := Int × Unit) fun x => spec_IsTruth x.1
theorem C98_eq {a_} {y} (h : spec_IsTruth a_ = some y) : C98 [av .shr a_] = some (Res.res y) := specP_eq (X := Int × Unit) (F := fun x => spec_IsTruth x.1) (x := (a_, ())) h
noncomputable def g98 : Cfg := { P := Try.prog, take := [], keep := [], gho := [], ctx := [(45, C45)] }
@[simp] theorem g98_P : g98.P = Try.prog := rfl
@[simp] theorem g98_t : g98.take = [] := rfl
@[simp] theorem g98_g : g98.gho = [] := rfl
@[simp] theorem g98_r : g98.ro = [] := rfl
@[simp] theorem g98_w : g98.away = [] := by rw [g98]
@[simp] theorem g98_45 : lookN 45 g98.ctx = some C45 := rfl
set_option maxHeartbeats 4000000 in
set_option maxRecDepth 100000 in
theorem w98 {a_} {y} (hp : spec_IsTruth a_ = some y) : ∃ m, callo g98 0 98 [av .shr a_] mem0 = some (Res.res y, m) := by
  refine start_fn (Try.f98.body.getD .skip) [.tmp 2] rfl rfl Try.func98 (by kernel_rfl) (by kernel_rfl) (by simp [Try.ntmps98]) rfl ?_
  unfold spec_IsTruth at hp
  obtain ⟨y_1, h_2, hp⟩ := bind_some hp
  have c_3 := C45_eq h_2
  simp at c_3
  cases hp
  simp [Try.f98, Goal, FnEnd, c_3]
theorem pc98 : PC Try.prog 98 C98 := pc_of (g := g98) (ctxOK_of [(45, C45)] rfl ⟨pc45, trivial⟩) ⟨Try.f98, Try.func98, by kernel_rfl, by kernel_rfl⟩ fun x y h => w98 h

noncomputable def C97 : List AV → Option AV := specP (X := (List Int) × Unit) fun x => spec_l12Truths x.1
theorem C97_eq {list} {y} (h : spec_l12Truths list = some y) : C97 [av .shr list] = some (Res.res y) := specP_eq (X := (List Int) × Unit) (F := fun x => spec_l12Truths x.1) (x := (list, ())) h
noncomputable def g97 : Cfg := { P := Try.prog, take := [], keep := [((97, 2), { hd := [0, 3], bx := [], ex := [], rt := [2] })], gho := [], ctx := [(98, C98)] }
@[simp] theorem g97_P : g97.P = Try.prog := rfl
@[simp] theorem g97_t : g97.take = [] := rfl
@[simp] theorem g97_g : g97.gho = [] := rfl
@[simp] theorem g97_r : g97.ro = [] := rfl
@[simp] theorem g97_w : g97.away = [] := by rw [g97]
@[simp] theorem g97_98 : lookN 98 g97.ctx = some C98 := rfl
set_option maxHeartbeats 4000000 in
set_option maxRecDepth 100000 in
theorem w97 {list} {y} (hp : spec_l12Truths list = some y) : ∃ m, callo g97 0 97 [av .shr list] mem0 = some (Res.res y, m) := by
  refine start_fn (Try.f97.body.getD .skip) [.tmp 2] rfl rfl Try.func97 (by kernel_rfl) (by kernel_rfl) (by simp [Try.ntmps97]) rfl ?_
  unfold spec_l12Truths at hp
  simp [Try.f97]
  obtain ⟨r_19, h_20, hp⟩ := bind_some hp
  obtain ⟨I_3, I_3_⟩ : ∃ I : Int → St → Prop, I = (fun (s_1 : Int) (σ : St) => σ.env 0 = .one (.l .shr list.length (encL list)) ∧ σ.env 3 = .one (.s (.int .i64 s_1)) ∧ σ.mem = mem0) := ⟨_, rfl⟩
  obtain ⟨X_4, X_4_⟩ : ∃ X : ((Unit) ⊕ (Unit)) → Out → Prop, X = (fun (r_19 : (Unit) ⊕ (Unit)) (out : Out) => Sum.elim (fun r_19 => ∃ σ : St, out = .ret σ ∧ σ.env 2 = .one (.s (.bool false)) ∧ σ.mem = mem0) (fun r_19 => ∃ σ : St, out = .exit 0 σ ∧ σ.mem = mem0) r_19) := ⟨_, rfl⟩
  refine loopP ({ hd := [0, 3], bx := [], ex := [], rt := [2] }) I_3 X_4 h_20 (by exact rfl) ?_ ?_ ?_
  · rw [I_3_]
    exact ⟨by simp [restrict_env], by simp [restrict_env], by simp [restrict_mem]⟩
  · intro s_1 σ_5 a_2 hI hp
    rw [I_3_] at hI
    obtain ⟨q_6, q_7, q_8⟩ := hI
    try simp [q_6, q_7, q_8]
    rcases cond_cases hp with ⟨h_9, hp⟩ | ⟨h_9, hp⟩
    · try simp at h_9
      obtain ⟨e_10, h_11, hp⟩ := bind_some hp
      have b_12 := at_lo h_11
      have b_13 := at_hi h_11
      try simp at b_12
      try simp at b_13
      have c_14 := seg_at' h_11 0 1 (by decide) (ds := [.sc (.int .i64 e_10)]) rfl
      try simp at c_14
      obtain ⟨y_15, h_16, hp⟩ := bind_some hp
      have c_17 := C98_eq h_16
      simp at c_17
      try simp [q_6, q_7, q_8, h_9, b_12, b_13, c_14, c_17]
      rcases cond_cases hp with ⟨h_18, hp⟩ | ⟨h_18, hp⟩
      · try simp at h_18
        cases hp
        try simp [q_6, q_7, q_8, h_9, h_18]
        refine goal_next ?_
        rw [I_3_]
        exact ⟨by simp [restrict_env, q_6, q_7, q_8, h_9, h_18], by simp [restrict_env, q_6, q_7, q_8, h_9, h_18], by simp [restrict_mem, q_6, q_7, q_8, h_9, h_18]⟩
      · try simp at h_18
        cases hp
        try simp [q_6, q_7, q_8, h_9, h_18]
        refine goal_outR ?_
        rw [X_4_]
        exact ⟨_, rfl, by simp [restrict_env, q_6, q_7, q_8, h_9, h_18], by simp [restrict_mem, q_6, q_7, q_8, h_9, h_18]⟩
    · try simp at h_9
      cases hp
      try simp [q_6, q_7, q_8, h_9]
      refine goal_outX ?_
      rw [X_4_]
      exact ⟨_, rfl, by simp [restrict_mem, q_6, q_7, q_8, h_9]⟩
  · intro out hX
    rw [X_4_] at hX
    rcases r_19 with r_19 | r_19
    · simp only [Sum.elim_inl, Sum.elim_inr] at hX hp
      obtain ⟨σ_21, rfl, q_22, q_23⟩ := hX
      cases hp
      simp [Goal, FnEnd, q_22, q_23]
    · simp only [Sum.elim_inl, Sum.elim_inr] at hX hp
      obtain ⟨σ_24, rfl, q_25⟩ := hX
      cases hp
      simp [Goal, FnEnd, q_25]
theorem pc97 : PC Try.prog 97 C97 := pc_of (g := g97) (ctxOK_of [(98, C98)] rfl ⟨pc98, trivial⟩) ⟨Try.f97, Try.func97, by kernel_rfl, by kernel_rfl⟩ fun x y h => w97 h

noncomputable def C40 : List AV → Option AV := specP (X := Int × TStructure × Unit) fun x => spec_IsStructure x.1 x.2.1
theorem C40_eq {vars s} {y} (h : spec_IsStructure vars s = some y) : C40 [av .shr vars, av .shr s] = some (Res.res y) := specP_eq (X := Int × TStructure × Unit) (F := fun x => spec_IsStructure x.1 x.2.1) (x := (vars, s, ())) h
noncomputable def g40 : Cfg := { P := Try.prog, take := [], keep := [((40, 3), { hd := [0, 3, 5, 6], bx := [7], ex := [0, 3, 5], rt := [4] })], gho := [], ctx := [(45, C45), (97, C97), (98, C98)] }
@[simp] theorem g40_P : g40.P = Try.prog := rfl
@[simp] theorem g40_t : g40.take = [] := rfl
@[simp] theorem g40_g : g40.gho = [] := rfl
@[simp] theorem g40_r : g40.ro = [] := rfl
@[simp] theorem g40_w : g40.away = [] := by rw [g40]
@[simp] theorem g40_45 : lookN 45 g40.ctx = some C45 := rfl
@[simp] theorem g40_97 : lookN 97 g40.ctx = some C97 := rfl
@[simp] theorem g40_98 : lookN 98 g40.ctx = some C98 := rfl
set_option maxHeartbeats 4000000 in
set_option maxRecDepth 100000 in
theorem w40 {vars s} {y} (hp : spec_IsStructure vars s = some y) : ∃ m, callo g40 0 40 [av .shr vars, av .shr s] mem0 = some (Res.res y, m) := by
  refine start_fn (Try.f40.body.getD .skip) [.tmp 4] rfl rfl Try.func40 (by kernel_rfl) (by kernel_rfl) (by simp [Try.ntmps40]) rfl ?_
  unfold spec_IsStructure at hp
  simp [Try.f40]
  obtain ⟨r_37, h_38, hp⟩ := bind_some hp
  obtain ⟨I_3, I_3_⟩ : ∃ I : Int → St → Prop, I = (fun (s_1 : Int) (σ : St) => σ.env 0 = .one (.s (.int .i64 vars)) ∧ σ.env 3 = .one (.ptr (1, 3) 0) ∧ σ.env 5 = .one (.s (.int .i64 (s.nodes.length : Int))) ∧ σ.env 6 = .one (.s (.int .i64 s_1)) ∧ σ.mem (1, 3) = some [(.l .shr s.nodes.length (encL s.nodes)), (.l .shr s.next.length (encL s.next))] ∧ NoBox [(1, 3)] σ.mem) := ⟨_, rfl⟩
  obtain ⟨X_4, X_4_⟩ : ∃ X : ((Unit) ⊕ (Unit)) → Out → Prop, X = (fun (r_37 : (Unit) ⊕ (Unit)) (out : Out) => Sum.elim (fun r_37 => ∃ σ : St, out = .ret σ ∧ σ.env 4 = .one (.s (.bool false)) ∧ σ.mem (1, 3) = some [(.l .shr s.nodes.length (encL s.nodes)), (.l .shr s.next.length (encL s.next))] ∧ NoBox [(1, 3)] σ.mem) (fun r_37 => ∃ σ : St, out = .exit 0 σ ∧ σ.env 0 = .one (.s (.int .i64 vars)) ∧ σ.env 3 = .one (.ptr (1, 3) 0) ∧ σ.env 5 = .one (.s (.int .i64 (s.nodes.length : Int))) ∧ σ.mem (1, 3) = some [(.l .shr s.nodes.length (encL s.nodes)), (.l .shr s.next.length (encL s.next))] ∧ NoBox [(1, 3)] σ.mem) r_37) := ⟨_, rfl⟩
  refine loopP ({ hd := [0, 3, 5, 6], bx := [7], ex := [0, 3, 5], rt := [4] }) I_3 X_4 h_38 (by exact rfl) ?_ ?_ ?_
  · rw [I_3_]
    exact ⟨by simp [restrict_env], by simp [restrict_env], by simp [restrict_env], by simp [restrict_env], by simp [restrict_mem], NoBox.restrict (by intro k hk hb; simp at hk hb; simp [hk, hb])⟩
  · intro s_1 σ_5 a_2 hI hp
    rw [I_3_] at hI
    obtain ⟨q_6, q_7, q_8, q_9, q_10, hn_11⟩ := hI
    try simp [q_6, q_7, q_8, q_9, q_10]
    rcases cond_cases hp with ⟨h_12, hp⟩ | ⟨h_12, hp⟩
    · try simp at h_12
      obtain ⟨e_13, h_14, hp⟩ := bind_some hp
      have b_15 := at_lo h_14
      have b_16 := at_hi h_14
      try simp at b_15
      try simp at b_16
      have c_17 := seg_at' h_14 0 4 (by decide) (ds := [.sl e_13.vars.length (encL e_13.vars), .sl e_13.reach.length (encL e_13.reach), .sc (.int .i64 e_13.shared), .sc (.int .i64 e_13.many)]) rfl
      try simp at c_17
      have n_18 := hn_11 (1, 7) (by simp)
      try simp [q_6, q_7, q_8, q_9, q_10, h_12, b_15, b_16, c_17, n_18]
      rcases cond_cases hp with ⟨h_19, hp⟩ | ⟨h_19, hp⟩
      · try simp at h_19
        cases hp
        try simp [q_6, q_7, q_8, q_9, q_10, h_12, h_19]
        refine goal_outR ?_
        rw [X_4_]
        exact ⟨_, rfl, by simp [restrict_env, q_6, q_7, q_8, q_9, q_10, h_12, h_19], by simp [restrict_mem, q_6, q_7, q_8, q_9, q_10, h_12, h_19], NoBox.restrict (by intro k hk hb; simp at hk hb; simp [hk, hb, q_6, q_7, q_8, q_9, q_10, h_12, h_19, hn_11 k (by simp [hk, hb])])⟩
      · try simp at h_19
        try simp [q_6, q_7, q_8, q_9, q_10, h_12, h_19]
        rcases cond_cases hp with ⟨h_20, hp⟩ | ⟨h_20, hp⟩
        · try simp at h_20
          cases hp
          try simp [q_6, q_7, q_8, q_9, q_10, h_12, h_19, h_20]
          refine goal_outR ?_
          rw [X_4_]
          exact ⟨_, rfl, by simp [restrict_env, q_6, q_7, q_8, q_9, q_10, h_12, h_19, h_20], by simp [restrict_mem, q_6, q_7, q_8, q_9, q_10, h_12, h_19, h_20], NoBox.restrict (by intro k hk hb; simp at hk hb; simp [hk, hb, q_6, q_7, q_8, q_9, q_10, h_12, h_19, h_20, hn_11 k (by simp [hk, hb])])⟩
        · try simp at h_20
          obtain ⟨y_21, h_22, hp⟩ := bind_some hp
          have c_23 := C97_eq h_22
          simp at c_23
          try simp [q_6, q_7, q_8, q_9, q_10, h_12, h_19, h_20, c_23]
          rcases cond_cases hp with ⟨h_24, hp⟩ | ⟨h_24, hp⟩
          · try simp at h_24
            obtain ⟨y_25, h_26, hp⟩ := bind_some hp
            have c_27 := C97_eq h_26
            simp at c_27
            try simp [q_6, q_7, q_8, q_9, q_10, h_12, h_19, h_20, h_24, c_27]
            rcases cond_cases hp with ⟨h_28, hp⟩ | ⟨h_28, hp⟩
            · try simp at h_28
              obtain ⟨y_29, h_30, hp⟩ := bind_some hp
              have c_31 := C98_eq h_30
              simp at c_31
              try simp [q_6, q_7, q_8, q_9, q_10, h_12, h_19, h_20, h_24, h_28, c_31]
              rcases cond_cases hp with ⟨h_32, hp⟩ | ⟨h_32, hp⟩
              · try simp at h_32
                obtain ⟨y_33, h_34, hp⟩ := bind_some hp
                have c_35 := C45_eq h_34
                simp at c_35
                try simp [q_6, q_7, q_8, q_9, q_10, h_12, h_19, h_20, h_24, h_28, h_32, c_35]
                rcases cond_cases hp with ⟨h_36, hp⟩ | ⟨h_36, hp⟩
                · try simp at h_36
                  cases hp
                  try simp [q_6, q_7, q_8, q_9, q_10, h_12, h_19, h_20, h_24, h_28, h_32, h_36]
                  refine goal_next ?_
                  rw [I_3_]
                  exact ⟨by simp [restrict_env, q_6, q_7, q_8, q_9, q_10, h_12, h_19, h_20, h_24, h_28, h_32, h_36], by simp [restrict_env, q_6, q_7, q_8, q_9, q_10, h_12, h_19, h_20, h_24, h_28, h_32, h_36], by simp [restrict_env, q_6, q_7, q_8, q_9, q_10, h_12, h_19, h_20, h_24, h_28, h_32, h_36], by simp [restrict_env, q_6, q_7, q_8, q_9, q_10, h_12, h_19, h_20, h_24, h_28, h_32, h_36], by simp [restrict_mem, q_6, q_7, q_8, q_9, q_10, h_12, h_19, h_20, h_24, h_28, h_32, h_36], NoBox.restrict (by intro k hk hb; simp at hk hb; simp [hk, hb, q_6, q_7, q_8, q_9, q_10, h_12, h_19, h_20, h_24, h_28, h_32, h_36, hn_11 k (by simp [hk, hb])])⟩
                · try simp at h_36
                  cases hp
                  try simp [q_6, q_7, q_8, q_9, q_10, h_12, h_19, h_20, h_24, h_28, h_32, h_36]
                  refine goal_outR ?_
                  rw [X_4_]
                  exact ⟨_, rfl, by simp [restrict_env, q_6, q_7, q_8, q_9, q_10, h_12, h_19, h_20, h_24, h_28, h_32, h_36], by simp [restrict_mem, q_6, q_7, q_8, q_9, q_10, h_12, h_19, h_20, h_24, h_28, h_32, h_36], NoBox.restrict (by intro k hk hb; simp at hk hb; simp [hk, hb, q_6, q_7, q_8, q_9, q_10, h_12, h_19, h_20, h_24, h_28, h_32, h_36, hn_11 k (by simp [hk, hb])])⟩
              · try simp at h_32
                cases hp
                try simp [q_6, q_7, q_8, q_9, q_10, h_12, h_19, h_20, h_24, h_28, h_32]
                refine goal_outR ?_
                rw [X_4_]
                exact ⟨_, rfl, by simp [restrict_env, q_6, q_7, q_8, q_9, q_10, h_12, h_19, h_20, h_24, h_28, h_32], by simp [restrict_mem, q_6, q_7, q_8, q_9, q_10, h_12, h_19, h_20, h_24, h_28, h_32], NoBox.restrict (by intro k hk hb; simp at hk hb; simp [hk, hb, q_6, q_7, q_8, q_9, q_10, h_12, h_19, h_20, h_24, h_28, h_32, hn_11 k (by simp [hk, hb])])⟩
            · try simp at h_28
              cases hp
              try simp [q_6, q_7, q_8, q_9, q_10, h_12, h_19, h_20, h_24, h_28]
              refine goal_outR ?_
              rw [X_4_]
              exact ⟨_, rfl, by simp [restrict_env, q_6, q_7, q_8, q_9, q_10, h_12, h_19, h_20, h_24, h_28], by simp [restrict_mem, q_6, q_7, q_8, q_9, q_10, h_12, h_19, h_20, h_24, h_28], NoBox.restrict (by intro k hk hb; simp at hk hb; simp [hk, hb, q_6, q_7, q_8, q_9, q_10, h_12, h_19, h_20, h_24, h_28, hn_11 k (by simp [hk, hb])])⟩
          · try simp at h_24
            cases hp
            try simp [q_6, q_7, q_8, q_9, q_10, h_12, h_19, h_20, h_24]
            refine goal_outR ?_
            rw [X_4_]
            exact ⟨_, rfl, by simp [restrict_env, q_6, q_7, q_8, q_9, q_10, h_12, h_19, h_20, h_24], by simp [restrict_mem, q_6, q_7, q_8, q_9, q_10, h_12, h_19, h_20, h_24], NoBox.restrict (by intro k hk hb; simp at hk hb; simp [hk, hb, q_6, q_7, q_8, q_9, q_10, h_12, h_19, h_20, h_24, hn_11 k (by simp [hk, hb])])⟩
    · try simp at h_12
      cases hp
      try simp [q_6, q_7, q_8, q_9, q_10, h_12]
      refine goal_outX ?_
      rw [X_4_]
      exact ⟨_, rfl, by simp [restrict_env, q_6, q_7, q_8, q_9, q_10, h_12], by simp [restrict_env, q_6, q_7, q_8, q_9, q_10, h_12], by simp [restrict_env, q_6, q_7, q_8, q_9, q_10, h_12], by simp [restrict_mem, q_6, q_7, q_8, q_9, q_10, h_12], NoBox.restrict (by intro k hk hb; simp at hk hb; simp [hk, hb, q_6, q_7, q_8, q_9, q_10, h_12, hn_11 k (by simp [hk, hb])])⟩
  · intro out hX
    rw [X_4_] at hX
    rcases r_37 with r_37 | r_37
    · simp only [Sum.elim_inl, Sum.elim_inr] at hX hp
      obtain ⟨σ_39, rfl, q_40, q_41, hn_42⟩ := hX
      cases hp
      simp [Goal, FnEnd, q_40, q_41]
    · simp only [Sum.elim_inl, Sum.elim_inr] at hX hp
      obtain ⟨σ_43, rfl, q_44, q_45, q_46, q_47, hn_48⟩ := hX
      obtain ⟨y_49, h_50, hp⟩ := bind_some hp
      have c_51 := C45_eq h_50
      simp at c_51
      try simp [q_44, q_45, q_46, q_47, c_51]
      rcases cond_cases hp with ⟨h_52, hp⟩ | ⟨h_52, hp⟩
      · try simp at h_52
        try simp [q_44, q_45, q_46, q_47, h_52]
        rcases cond_cases hp with ⟨h_53, hp⟩ | ⟨h_53, hp⟩
        · try simp at h_53
          try simp [q_44, q_45, q_46, q_47, h_52, h_53]
          rcases cond_cases hp with ⟨h_54, hp⟩ | ⟨h_54, hp⟩
          · try simp at h_54
            obtain ⟨y_55, h_56, hp⟩ := bind_some hp
            have c_57 := C97_eq h_56
            simp at c_57
            cases hp
            simp [Goal, FnEnd, q_44, q_45, q_46, q_47, h_52, h_53, h_54, c_57]
          · try simp at h_54
            cases hp
            simp [Goal, FnEnd, q_44, q_45, q_46, q_47, h_52, h_53, h_54]
        · try simp at h_53
          cases hp
          simp [Goal, FnEnd, q_44, q_45, q_46, q_47, h_52, h_53]
      · try simp at h_52
        cases hp
        simp [Goal, FnEnd, q_44, q_45, q_46, q_47, h_52]
theorem pc40 : PC Try.prog 40 C40 := pc_of (g := g40) (ctxOK_of [(45, C45), (97, C97), (98, C98)] rfl ⟨pc45, pc97, pc98, trivial⟩) ⟨Try.f40, Try.func40, by kernel_rfl, by kernel_rfl⟩ fun x y h => w40 h

noncomputable def C123 : List AV → Option AV := specP (X := TNode × Unit) fun x => spec_l12CopyNode x.1
theorem C123_eq {x_} {y} (h : spec_l12CopyNode x_ = some y) : C123 [av .shr x_] = some (Res.res y) := specP_eq (X := TNode × Unit) (F := fun x => spec_l12CopyNode x.1) (x := (x_, ())) h
noncomputable def g123 : Cfg := { P := Try.prog, take := [], keep := [], gho := [], ctx := [] }
@[simp] theorem g123_P : g123.P = Try.prog := rfl
@[simp] theorem g123_t : g123.take = [] := rfl
@[simp] theorem g123_g : g123.gho = [] := rfl
@[simp] theorem g123_r : g123.ro = [] := rfl
@[simp] theorem g123_w : g123.away = [] := by rw [g123]
set_option maxHeartbeats 4000000 in
set_option maxRecDepth 100000 in
theorem w123 {x_} {y} (hp : spec_l12CopyNode x_ = some y) : ∃ m, callo g123 0 123 [av .shr x_] mem0 = some (Res.res y, m) := by
  refine start_fn (Try.f123.body.getD .skip) [.cell 2 104] rfl rfl Try.func123 (by kernel_rfl) (by kernel_rfl) (by simp [Try.ntmps123]) rfl ?_
  unfold spec_l12CopyNode at hp
  obtain ⟨_, h_1, hp⟩ := bind_some hp
  have b_2 := room_ok h_1
  try simp at b_2
  obtain ⟨_, h_3, hp⟩ := bind_some hp
  have b_4 := room_ok h_3
  try simp at b_4
  cases hp
  simp [Try.f123, Goal, FnEnd, retR, rsrc, RSrc.val, nodupR, nodup, tupPart, b_2, b_4]
theorem pc123 : PC Try.prog 123 C123 := pc_of (g := g123) (fun f F h => by cases h) ⟨Try.f123, Try.func123, by kernel_rfl, by kernel_rfl⟩ fun x y h => w123 h

noncomputable def C70 : List AV → Option AV := specP (X := TStructure × Unit) fun x => spec_l12Copy x.1
theorem C70_eq {s} {y} (h : spec_l12Copy s = some y) : C70 [av .shr s] = some (Res.res y) := specP_eq (X := TStructure × Unit) (F := fun x => spec_l12Copy x.1) (x := (s, ())) h
noncomputable def g70 : Cfg := { P := Try.prog, take := [(70, 18), (70, 28)], keep := [((70, 3), { hd := [1, 2, 3, 4], bx := [], ex := [2, 3], rt := [2] })], gho := [], ctx := [(123, C123)] }
@[simp] theorem g70_P : g70.P = Try.prog := rfl
@[simp] theorem g70_t : g70.take = [(70, 18), (70, 28)] := rfl
@[simp] theorem g70_g : g70.gho = [] := rfl
@[simp] theorem g70_r : g70.ro = [] := rfl
@[simp] theorem g70_w : g70.away = [] := by rw [g70]
@[simp] theorem g70_123 : lookN 123 g70.ctx = some C123 := rfl
set_option maxHeartbeats 4000000 in
set_option maxRecDepth 100000 in
theorem w70 {s} {y} (hp : spec_l12Copy s = some y) : ∃ m, callo g70 0 70 [av .shr s] mem0 = some (Res.res y, m) := by
  refine start_fn (Try.f70.body.getD .skip) [.cell 2 52] rfl rfl Try.func70 (by kernel_rfl) (by kernel_rfl) (by simp [Try.ntmps70]) rfl ?_
  unfold spec_l12Copy at hp
  obtain ⟨_, h_1, hp⟩ := bind_some hp
  have b_2 := room_ok h_1
  try simp at b_2
  simp [Try.f70, b_2]
  obtain ⟨r_27, h_28, hp⟩ := bind_some hp
  obtain ⟨I_5, I_5_⟩ : ∃ I : Int × (List TNode) → St → Prop, I = (fun (s_3 : Int × (List TNode)) (σ : St) => σ.env 1 = .one (.ptr (1, 1) 0) ∧ σ.env 2 = .one (.ptr (1, 2) 0) ∧ σ.env 3 = .one (.ptr (1, 3) 0) ∧ σ.env 4 = .one (.s (.int .i64 s_3.1)) ∧ σ.mem (1, 1) = some [(.l .shr s.nodes.length (encL s.nodes)), (.l .shr s.next.length (encL s.next))] ∧ σ.mem (1, 2) = some [(.l .own 0 []), (.l .own 0 [])] ∧ σ.mem (1, 3) = some [(.l .own s_3.2.length (encL s_3.2)), (.l .own s.next.length (encL s.next))] ∧ NoBox [(1, 1), (1, 2), (1, 3)] σ.mem) := ⟨_, rfl⟩
  obtain ⟨X_6, X_6_⟩ : ∃ X : (List TNode) → Out → Prop, X = (fun (r_27 : (List TNode)) (out : Out) => ∃ σ : St, out = .exit 0 σ ∧ σ.env 2 = .one (.ptr (1, 2) 0) ∧ σ.env 3 = .one (.ptr (1, 3) 0) ∧ σ.mem (1, 1) = some [(.l .shr s.nodes.length (encL s.nodes)), (.l .shr s.next.length (encL s.next))] ∧ σ.mem (1, 2) = some [(.l .own 0 []), (.l .own 0 [])] ∧ σ.mem (1, 3) = some [(.l .own r_27.length (encL r_27)), (.l .own s.next.length (encL s.next))] ∧ NoBox [(1, 1), (1, 2), (1, 3)] σ.mem) := ⟨_, rfl⟩
  refine loopP ({ hd := [1, 2, 3, 4], bx := [], ex := [2, 3], rt := [2] }) I_5 X_6 h_28 (by exact rfl) ?_ ?_ ?_
  · rw [I_5_]
    exact ⟨by simp [restrict_env], by simp [restrict_env], by simp [restrict_env], by simp [restrict_env], by simp [restrict_mem], by simp [restrict_mem], by simp [restrict_mem], NoBox.restrict (by intro k hk hb; simp at hk hb; simp [hk, hb])⟩
  · intro s_3 σ_7 a_4 hI hp
    rw [I_5_] at hI
    obtain ⟨q_8, q_9, q_10, q_11, q_12, q_13, q_14, hn_15⟩ := hI
    try simp [q_8, q_9, q_10, q_11, q_12, q_13, q_14]
    rcases cond_cases hp with ⟨h_16, hp⟩ | ⟨h_16, hp⟩
    · try simp at h_16
      obtain ⟨e_17, h_18, hp⟩ := bind_some hp
      have b_19 := at_lo h_18
      have b_20 := at_hi h_18
      try simp at b_19
      try simp at b_20
      have c_21 := seg_at' h_18 0 4 (by decide) (ds := [.sl e_17.vars.length (encL e_17.vars), .sl e_17.reach.length (encL e_17.reach), .sc (.int .i64 e_17.shared), .sc (.int .i64 e_17.many)]) rfl
      try simp at c_21
      obtain ⟨y_22, h_23, hp⟩ := bind_some hp
      have c_24 := C123_eq h_23
      simp at c_24
      obtain ⟨_, h_25, hp⟩ := bind_some hp
      have b_26 := room_ok h_25
      try simp at b_26
      cases hp
      try simp [q_8, q_9, q_10, q_11, q_12, q_13, q_14, h_16, b_19, b_20, c_21, c_24, b_26]
      refine goal_next ?_
      rw [I_5_]
      exact ⟨by simp [restrict_env, q_8, q_9, q_10, q_11, q_12, q_13, q_14, h_16, b_19, b_20, c_21, c_24, b_26], by simp [restrict_env, q_8, q_9, q_10, q_11, q_12, q_13, q_14, h_16, b_19, b_20, c_21, c_24, b_26], by simp [restrict_env, q_8, q_9, q_10, q_11, q_12, q_13, q_14, h_16, b_19, b_20, c_21, c_24, b_26], by simp [restrict_env, q_8, q_9, q_10, q_11, q_12, q_13, q_14, h_16, b_19, b_20, c_21, c_24, b_26], by simp [restrict_mem, q_8, q_9, q_10, q_11, q_12, q_13, q_14, h_16, b_19, b_20, c_21, c_24, b_26], by simp [restrict_mem, q_8, q_9, q_10, q_11, q_12, q_13, q_14, h_16, b_19, b_20, c_21, c_24, b_26], by simp [restrict_mem, q_8, q_9, q_10, q_11, q_12, q_13, q_14, h_16, b_19, b_20, c_21, c_24, b_26], NoBox.restrict (by intro k hk hb; simp at hk hb; simp [hk, hb, q_8, q_9, q_10, q_11, q_12, q_13, q_14, h_16, b_19, b_20, c_21, c_24, b_26, hn_15 k (by simp [hk, hb])])⟩
    · try simp at h_16
      cases hp
      try simp [q_8, q_9, q_10, q_11, q_12, q_13, q_14, h_16]
      refine goal_outX ?_
      rw [X_6_]
      exact ⟨_, rfl, by simp [restrict_env, q_8, q_9, q_10, q_11, q_12, q_13, q_14, h_16], by simp [restrict_env, q_8, q_9, q_10, q_11, q_12, q_13, q_14, h_16], by simp [restrict_mem, q_8, q_9, q_10, q_11, q_12, q_13, q_14, h_16], by simp [restrict_mem, q_8, q_9, q_10, q_11, q_12, q_13, q_14, h_16], by simp [restrict_mem, q_8, q_9, q_10, q_11, q_12, q_13, q_14, h_16], NoBox.restrict (by intro k hk hb; simp at hk hb; simp [hk, hb, q_8, q_9, q_10, q_11, q_12, q_13, q_14, h_16, hn_15 k (by simp [hk, hb])])⟩
  · intro out hX
    rw [X_6_] at hX
    obtain ⟨σ_29, rfl, q_30, q_31, q_32, q_33, q_34, hn_35⟩ := hX
    cases hp
    simp [Goal, FnEnd, retR, rsrc, RSrc.val, nodupR, nodup, tupPart, q_30, q_31, q_32, q_33, q_34]
theorem pc70 : PC Try.prog 70 C70 := pc_of (g := g70) (ctxOK_of [(123, C123)] rfl ⟨pc123, trivial⟩) ⟨Try.f70, Try.func70, by kernel_rfl, by kernel_rfl⟩ fun x y h => w70 h

noncomputable def C72 : List AV → Option AV := specP (X := TStructure × Int × Int × Unit) fun x => spec_NextOf x.1 x.2.1 x.2.2.1
theorem C72_eq {s i j} {y} (h : spec_NextOf s i j = some y) : C72 [av .shr s, av .shr i, av .shr j] = some (Res.res y) := specP_eq (X := TStructure × Int × Int × Unit) (F := fun x => spec_NextOf x.1 x.2.1 x.2.2.1) (x := (s, i, j, ())) h
noncomputable def g72 : Cfg := { P := Try.prog, take := [], keep := [], gho := [], ctx := [(45, C45)] }
@[simp] theorem g72_P : g72.P = Try.prog := rfl
@[simp] theorem g72_t : g72.take = [] := rfl
@[simp] theorem g72_g : g72.gho = [] := rfl
@[simp] theorem g72_r : g72.ro = [] := rfl
@[simp] theorem g72_w : g72.away = [] := by rw [g72]
@[simp] theorem g72_45 : lookN 45 g72.ctx = some C45 := rfl
set_option maxHeartbeats 4000000 in
set_option maxRecDepth 100000 in
theorem w72 {s i j} {y} (hp : spec_NextOf s i j = some y) : ∃ m, callo g72 0 72 [av .shr s, av .shr i, av .shr j] mem0 = some (Res.res y, m) := by
  refine start_fn (Try.f72.body.getD .skip) [.tmp 6] rfl rfl Try.func72 (by kernel_rfl) (by kernel_rfl) (by simp [Try.ntmps72]) rfl ?_
  unfold spec_NextOf at hp
  obtain ⟨y_1, h_2, hp⟩ := bind_some hp
  have c_3 := C45_eq h_2
  simp at c_3
  simp [Try.f72, c_3]
  rcases cond_cases hp with ⟨h_4, hp⟩ | ⟨h_4, hp⟩
  · try simp at h_4
    obtain ⟨y_5, h_6, hp⟩ := bind_some hp
    have c_7 := C45_eq h_6
    simp at c_7
    try simp [h_4, c_7]
    rcases cond_cases hp with ⟨h_8, hp⟩ | ⟨h_8, hp⟩
    · try simp at h_8
      try simp [h_4, h_8]
      rcases cond_cases hp with ⟨h_9, hp⟩ | ⟨h_9, hp⟩
      · try simp at h_9
        cases hp
        simp [Goal, FnEnd, h_4, h_8, h_9]
      · try simp at h_9
        obtain ⟨e_10, h_11, hp⟩ := bind_some hp
        have b_12 := at_lo h_11
        have b_13 := at_hi h_11
        try simp at b_12
        try simp at b_13
        have c_14 := seg_at' h_11 0 1 (by decide) (ds := [.sc (.int .i64 e_10)]) rfl
        try simp at c_14
        cases hp
        simp [Goal, FnEnd, h_4, h_8, h_9, b_12, b_13, c_14]
    · try simp at h_8
      cases hp
      simp [Goal, FnEnd, h_4, h_8]
  · try simp at h_4
    cases hp
    simp [Goal, FnEnd, h_4]
theorem pc72 : PC Try.prog 72 C72 := pc_of (g := g72) (ctxOK_of [(45, C45)] rfl ⟨pc45, trivial⟩) ⟨Try.f72, Try.func72, by kernel_rfl, by kernel_rfl⟩ fun x y h => w72 h

noncomputable def C71 : List AV → Option AV := specP (X := TStructure × Int × Unit) fun x => spec_l19Targets x.1 x.2.1
theorem C71_eq {s b_} {y} (h : spec_l19Targets s b_ = some y) : C71 [av .shr s, av .shr b_] = some (Res.res y) := specP_eq (X := TStructure × Int × Unit) (F := fun x => spec_l19Targets x.1 x.2.1) (x := (s, b_, ())) h
noncomputable def g71 : Cfg := { P := Try.prog, take := [(71, 20), (71, 24)], keep := [((71, 3), { hd := [1, 2, 5, 6], bx := [], ex := [5], rt := [4] })], gho := [], ctx := [(72, C72)] }
@[simp] theorem g71_P : g71.P = Try.prog := rfl
@[simp] theorem g71_t : g71.take = [(71, 20), (71, 24)] := rfl
@[simp] theorem g71_g : g71.gho = [] := rfl
@[simp] theorem g71_r : g71.ro = [] := rfl
@[simp] theorem g71_w : g71.away = [] := by rw [g71]
@[simp] theorem g71_72 : lookN 72 g71.ctx = some C72 := rfl
set_option maxHeartbeats 4000000 in
set_option maxRecDepth 100000 in
theorem w71 {s b_} {y} (hp : spec_l19Targets s b_ = some y) : ∃ m, callo g71 0 71 [av .shr s, av .shr b_] mem0 = some (Res.res y, m) := by
  refine start_fn (Try.f71.body.getD .skip) [.tmp 4] rfl rfl Try.func71 (by kernel_rfl) (by kernel_rfl) (by simp [Try.ntmps71]) rfl ?_
  unfold spec_l19Targets at hp
  simp [Try.f71]
  obtain ⟨r_19, h_20, hp⟩ := bind_some hp
  obtain ⟨I_3, I_3_⟩ : ∃ I : (List Int) × Int → St → Prop, I = (fun (s_1 : (List Int) × Int) (σ : St) => σ.env 1 = .one (.s (.int .i64 b_)) ∧ σ.env 2 = .one (.ptr (1, 2) 0) ∧ σ.env 5 = .one (.l .own s_1.1.length (encL s_1.1)) ∧ σ.env 6 = .one (.s (.int .i64 s_1.2)) ∧ σ.mem (1, 2) = some [(.l .shr s.nodes.length (encL s.nodes)), (.l .shr s.next.length (encL s.next))] ∧ NoBox [(1, 2)] σ.mem) := ⟨_, rfl⟩
  obtain ⟨X_4, X_4_⟩ : ∃ X : (List Int) → Out → Prop, X = (fun (r_19 : (List Int)) (out : Out) => ∃ σ : St, out = .exit 0 σ ∧ σ.env 5 = .one (.l .own r_19.length (encL r_19)) ∧ σ.mem (1, 2) = some [(.l .shr s.nodes.length (encL s.nodes)), (.l .shr s.next.length (encL s.next))] ∧ NoBox [(1, 2)] σ.mem) := ⟨_, rfl⟩
  refine loopP ({ hd := [1, 2, 5, 6], bx := [], ex := [5], rt := [4] }) I_3 X_4 h_20 (by exact rfl) ?_ ?_ ?_
  · rw [I_3_]
    exact ⟨by simp [restrict_env], by simp [restrict_env], by simp [restrict_env], by simp [restrict_env], by simp [restrict_mem], NoBox.restrict (by intro k hk hb; simp at hk hb; simp [hk, hb])⟩
  · intro s_1 σ_5 a_2 hI hp
    rw [I_3_] at hI
    obtain ⟨q_6, q_7, q_8, q_9, q_10, hn_11⟩ := hI
    try simp [q_6, q_7, q_8, q_9, q_10]
    rcases cond_cases hp with ⟨h_12, hp⟩ | ⟨h_12, hp⟩
    · try simp at h_12
      obtain ⟨y_13, h_14, hp⟩ := bind_some hp
      have c_15 := C72_eq h_14
      simp at c_15
      try simp [q_6, q_7, q_8, q_9, q_10, h_12, c_15]
      rcases cond_cases hp with ⟨h_16, hp⟩ | ⟨h_16, hp⟩
      · try simp at h_16
        obtain ⟨_, h_17, hp⟩ := bind_some hp
        have b_18 := room_ok h_17
        try simp at b_18
        cases hp
        try simp [q_6, q_7, q_8, q_9, q_10, h_12, h_16, b_18]
        refine goal_next ?_
        rw [I_3_]
        exact ⟨by simp [restrict_env, q_6, q_7, q_8, q_9, q_10, h_12, h_16, b_18], by simp [restrict_env, q_6, q_7, q_8, q_9, q_10, h_12, h_16, b_18], by simp [restrict_env, q_6, q_7, q_8, q_9, q_10, h_12, h_16, b_18], by simp [restrict_env, q_6, q_7, q_8, q_9, q_10, h_12, h_16, b_18], by simp [restrict_mem, q_6, q_7, q_8, q_9, q_10, h_12, h_16, b_18], NoBox.restrict (by intro k hk hb; simp at hk hb; simp [hk, hb, q_6, q_7, q_8, q_9, q_10, h_12, h_16, b_18, hn_11 k (by simp [hk, hb])])⟩
      · try simp at h_16
        cases hp
        try simp [q_6, q_7, q_8, q_9, q_10, h_12, h_16]
        refine goal_next ?_
        rw [I_3_]
        exact ⟨by simp [restrict_env, q_6, q_7, q_8, q_9, q_10, h_12, h_16], by simp [restrict_env, q_6, q_7, q_8, q_9, q_10, h_12, h_16], by simp [restrict_env, q_6, q_7, q_8, q_9, q_10, h_12, h_16], by simp [restrict_env, q_6, q_7, q_8, q_9, q_10, h_12, h_16], by simp [restrict_mem, q_6, q_7, q_8, q_9, q_10, h_12, h_16], NoBox.restrict (by intro k hk hb; simp at hk hb; simp [hk, hb, q_6, q_7, q_8, q_9, q_10, h_12, h_16, hn_11 k (by simp [hk, hb])])⟩
    · try simp at h_12
      cases hp
      try simp [q_6, q_7, q_8, q_9, q_10, h_12]
      refine goal_outX ?_
      rw [X_4_]
      exact ⟨_, rfl, by simp [restrict_env, q_6, q_7, q_8, q_9, q_10, h_12], by simp [restrict_mem, q_6, q_7, q_8, q_9, q_10, h_12], NoBox.restrict (by intro k hk hb; simp at hk hb; simp [hk, hb, q_6, q_7, q_8, q_9, q_10, h_12, hn_11 k (by simp [hk, hb])])⟩
  · intro out hX
    rw [X_4_] at hX
    obtain ⟨σ_21, rfl, q_22, q_23, hn_24⟩ := hX
    cases hp
    simp [Goal, FnEnd, q_22, q_23]
theorem pc71 : PC Try.prog 71 C71 := pc_of (g := g71) (ctxOK_of [(72, C72)] rfl ⟨pc72, trivial⟩) ⟨Try.f71, Try.func71, by kernel_rfl, by kernel_rfl⟩ fun x y h => w71 h
end Go.Proofs
