import Derived.Test.YtahcfnjgllpkdaaEvW3
set_option linter.unusedSimpArgs false
set_option linter.unusedVariables false
set_option linter.unnecessarySimpa false
namespace Go.Proofs
open Go.Ev
noncomputable def C188 : List AV → Option AV := specP (X := TStructure × (List Int) × Unit) fun x => impl_isOnto x.1 x.2.1
theorem C188_eq {t to_} {y} (h : impl_isOnto t to_ = some y) : C188 [av .shr t, av .shr to_] = some (Res.res y) := specP_eq (X := TStructure × (List Int) × Unit) (F := fun x => impl_isOnto x.1 x.2.1) (x := (t, to_, ())) h
noncomputable def g188 : Cfg := { P := Try.prog, take := [], keep := [((188, 2), { hd := [1, 8, 9], bx := [], ex := [], rt := [4] })], gho := [], ctx := [(155, C155)] }
@[simp] theorem g188_P : g188.P = Try.prog := rfl
@[simp] theorem g188_t : g188.take = [] := rfl
@[simp] theorem g188_g : g188.gho = [] := rfl
@[simp] theorem g188_155 : lookN 155 g188.ctx = some C155 := rfl
set_option maxHeartbeats 4000000 in
set_option maxRecDepth 100000 in
theorem w188 {t to_} {y} (hp : impl_isOnto t to_ = some y) : ∃ m, callo g188 0 188 [av .shr t, av .shr to_] mem0 = some (Res.res y, m) := by
  refine start_fn (Try.f188.body.getD .skip) [.tmp 4] rfl rfl Try.func188 (by kernel_rfl) (by kernel_rfl) (by simp [Try.ntmps188]) rfl ?_
  unfold impl_isOnto at hp
  simp [Try.f188]
  obtain ⟨r_16, h_17, hp⟩ := bind_some hp
  obtain ⟨I_3, I_3_⟩ : ∃ I : Int → St → Prop, I = (fun (s_1 : Int) (σ : St) => σ.env 1 = .one (.l .shr to_.length (encL to_)) ∧ σ.env 8 = .one (.s (.int .i64 (t.nodes.length : Int))) ∧ σ.env 9 = .one (.s (.int .i64 s_1)) ∧ σ.mem (1, 2) = some [(.l .shr t.nodes.length (encL t.nodes)), (.l .shr t.next.length (encL t.next))] ∧ NoBox [(1, 2)] σ.mem) := ⟨_, rfl⟩
  obtain ⟨X_4, X_4_⟩ : ∃ X : ((Unit) ⊕ (Unit)) → Out → Prop, X = (fun (r_16 : (Unit) ⊕ (Unit)) (out : Out) => Sum.elim (fun r_16 => ∃ σ : St, out = .ret σ ∧ σ.env 4 = .one (.s (.bool false)) ∧ σ.mem (1, 2) = some [(.l .shr t.nodes.length (encL t.nodes)), (.l .shr t.next.length (encL t.next))] ∧ NoBox [(1, 2)] σ.mem) (fun r_16 => ∃ σ : St, out = .exit 0 σ ∧ σ.mem (1, 2) = some [(.l .shr t.nodes.length (encL t.nodes)), (.l .shr t.next.length (encL t.next))] ∧ NoBox [(1, 2)] σ.mem) r_16) := ⟨_, rfl⟩
  refine loopP ({ hd := [1, 8, 9], bx := [], ex := [], rt := [4] }) I_3 X_4 h_17 (by exact rfl) ?_ ?_ ?_
  · rw [I_3_]
    exact ⟨by simp [restrict_env], by simp [restrict_env], by simp [restrict_env], by simp [restrict_mem], NoBox.restrict (by intro k hk hb; simp at hk hb; simp [hk, hb])⟩
  · intro s_1 σ_5 a_2 hI hp
    rw [I_3_] at hI
    obtain ⟨q_6, q_7, q_8, q_9, hn_10⟩ := hI
    try simp [q_6, q_7, q_8, q_9]
    rcases cond_cases hp with ⟨h_11, hp⟩ | ⟨h_11, hp⟩
    · try simp at h_11
      obtain ⟨y_12, h_13, hp⟩ := bind_some hp
      have c_14 := C155_eq h_13
      simp at c_14
      try simp [q_6, q_7, q_8, q_9, h_11, c_14]
      rcases cond_cases hp with ⟨h_15, hp⟩ | ⟨h_15, hp⟩
      · try simp at h_15
        cases hp
        try simp [q_6, q_7, q_8, q_9, h_11, h_15]
        refine goal_next ?_
        rw [I_3_]
        exact ⟨by simp [restrict_env, q_6, q_7, q_8, q_9, h_11, h_15], by simp [restrict_env, q_6, q_7, q_8, q_9, h_11, h_15], by simp [restrict_env, q_6, q_7, q_8, q_9, h_11, h_15], by simp [restrict_mem, q_6, q_7, q_8, q_9, h_11, h_15], NoBox.restrict (by intro k hk hb; simp at hk hb; simp [hk, hb, q_6, q_7, q_8, q_9, h_11, h_15, hn_10 k (by simp [hk, hb])])⟩
      · try simp at h_15
        cases hp
        try simp [q_6, q_7, q_8, q_9, h_11, h_15]
        refine goal_outR ?_
        rw [X_4_]
        exact ⟨_, rfl, by simp [restrict_env, q_6, q_7, q_8, q_9, h_11, h_15], by simp [restrict_mem, q_6, q_7, q_8, q_9, h_11, h_15], NoBox.restrict (by intro k hk hb; simp at hk hb; simp [hk, hb, q_6, q_7, q_8, q_9, h_11, h_15, hn_10 k (by simp [hk, hb])])⟩
    · try simp at h_11
      cases hp
      try simp [q_6, q_7, q_8, q_9, h_11]
      refine goal_outX ?_
      rw [X_4_]
      exact ⟨_, rfl, by simp [restrict_mem, q_6, q_7, q_8, q_9, h_11], NoBox.restrict (by intro k hk hb; simp at hk hb; simp [hk, hb, q_6, q_7, q_8, q_9, h_11, hn_10 k (by simp [hk, hb])])⟩
  · intro out hX
    rw [X_4_] at hX
    rcases r_16 with r_16 | r_16
    · simp only [Sum.elim_inl, Sum.elim_inr] at hX hp
      obtain ⟨σ_18, rfl, q_19, q_20, hn_21⟩ := hX
      cases hp
      simp [Goal, FnEnd, q_19, q_20]
    · simp only [Sum.elim_inl, Sum.elim_inr] at hX hp
      obtain ⟨σ_22, rfl, q_23, hn_24⟩ := hX
      cases hp
      simp [Goal, FnEnd, q_23]
theorem pc188 : PC Try.prog 188 C188 := pc_of (g := g188) (ctxOK_of [(155, C155)] rfl ⟨pc155, trivial⟩) ⟨Try.f188, Try.func188, by kernel_rfl, by kernel_rfl⟩ fun x y h => w188 h

noncomputable def C134 : List AV → Option AV := specP (X := TStructure × Int × Unit) fun x => impl_Structure_isNode x.1 x.2.1
theorem C134_eq {s i} {y} (h : impl_Structure_isNode s i = some y) : C134 [av .shr s, av .shr i] = some (Res.res y) := specP_eq (X := TStructure × Int × Unit) (F := fun x => impl_Structure_isNode x.1 x.2.1) (x := (s, i, ())) h
noncomputable def g134 : Cfg := { P := Try.prog, take := [], keep := [], gho := [], ctx := [(49, C49)] }
@[simp] theorem g134_P : g134.P = Try.prog := rfl
@[simp] theorem g134_t : g134.take = [] := rfl
@[simp] theorem g134_g : g134.gho = [] := rfl
@[simp] theorem g134_49 : lookN 49 g134.ctx = some C49 := rfl
set_option maxHeartbeats 4000000 in
set_option maxRecDepth 100000 in
theorem w134 {s i} {y} (hp : impl_Structure_isNode s i = some y) : ∃ m, callo g134 0 134 [av .shr s, av .shr i] mem0 = some (Res.res y, m) := by
  refine start_fn (Try.f134.body.getD .skip) [.tmp 4] rfl rfl Try.func134 (by kernel_rfl) (by kernel_rfl) (by simp [Try.ntmps134]) rfl ?_
  unfold impl_Structure_isNode at hp
  obtain ⟨y_1, h_2, hp⟩ := bind_some hp
  have c_3 := C49_eq h_2
  simp at c_3
  cases hp
  simp [Try.f134, Goal, FnEnd, c_3]
theorem pc134 : PC Try.prog 134 C134 := pc_of (g := g134) (ctxOK_of [(49, C49)] rfl ⟨pc49, trivial⟩) ⟨Try.f134, Try.func134, by kernel_rfl, by kernel_rfl⟩ fun x y h => w134 h

noncomputable def C132 : List AV → Option AV := specP (X := Int × Unit) fun x => impl_IsTruth x.1
theorem C132_eq {a_} {y} (h : impl_IsTruth a_ = some y) : C132 [av .shr a_] = some (Res.res y) := specP_eq (X := Int × Unit) (F := fun x => impl_IsTruth x.1) (x := (a_, ())) h
noncomputable def g132 : Cfg := { P := Try.prog, take := [], keep := [], gho := [], ctx := [(49, C49)] }
@[simp] theorem g132_P : g132.P = Try.prog := rfl
@[simp] theorem g132_t : g132.take = [] := rfl
@[simp] theorem g132_g : g132.gho = [] := rfl
@[simp] theorem g132_49 : lookN 49 g132.ctx = some C49 := rfl
set_option maxHeartbeats 4000000 in
set_option maxRecDepth 100000 in
theorem w132 {a_} {y} (hp : impl_IsTruth a_ = some y) : ∃ m, callo g132 0 132 [av .shr a_] mem0 = some (Res.res y, m) := by
  refine start_fn (Try.f132.body.getD .skip) [.tmp 2] rfl rfl Try.func132 (by kernel_rfl) (by kernel_rfl) (by simp [Try.ntmps132]) rfl ?_
  unfold impl_IsTruth at hp
  obtain ⟨y_1, h_2, hp⟩ := bind_some hp
  have c_3 := C49_eq h_2
  simp at c_3
  cases hp
  simp [Try.f132, Goal, FnEnd, c_3]
theorem pc132 : PC Try.prog 132 C132 := pc_of (g := g132) (ctxOK_of [(49, C49)] rfl ⟨pc49, trivial⟩) ⟨Try.f132, Try.func132, by kernel_rfl, by kernel_rfl⟩ fun x y h => w132 h

noncomputable def C191 : List AV → Option AV := specP (X := Int × Int × Unit) fun x => impl_IsWithin x.1 x.2.1
theorem C191_eq {a_ b_} {y} (h : impl_IsWithin a_ b_ = some y) : C191 [av .shr a_, av .shr b_] = some (Res.res y) := specP_eq (X := Int × Int × Unit) (F := fun x => impl_IsWithin x.1 x.2.1) (x := (a_, b_, ())) h
noncomputable def g191 : Cfg := { P := Try.prog, take := [], keep := [], gho := [], ctx := [(132, C132)] }
@[simp] theorem g191_P : g191.P = Try.prog := rfl
@[simp] theorem g191_t : g191.take = [] := rfl
@[simp] theorem g191_g : g191.gho = [] := rfl
@[simp] theorem g191_132 : lookN 132 g191.ctx = some C132 := rfl
set_option maxHeartbeats 4000000 in
set_option maxRecDepth 100000 in
theorem w191 {a_ b_} {y} (hp : impl_IsWithin a_ b_ = some y) : ∃ m, callo g191 0 191 [av .shr a_, av .shr b_] mem0 = some (Res.res y, m) := by
  refine start_fn (Try.f191.body.getD .skip) [.tmp 4] rfl rfl Try.func191 (by kernel_rfl) (by kernel_rfl) (by simp [Try.ntmps191]) rfl ?_
  unfold impl_IsWithin at hp
  obtain ⟨y_1, h_2, hp⟩ := bind_some hp
  have c_3 := C132_eq h_2
  simp at c_3
  simp [Try.f191, c_3]
  rcases cond_cases hp with ⟨h_4, hp⟩ | ⟨h_4, hp⟩
  · try simp at h_4
    obtain ⟨y_5, h_6, hp⟩ := bind_some hp
    have c_7 := C132_eq h_6
    simp at c_7
    try simp [h_4, c_7]
    rcases cond_cases hp with ⟨h_8, hp⟩ | ⟨h_8, hp⟩
    · try simp at h_8
      try simp [h_4, h_8]
      rcases cond_cases hp with ⟨h_9, hp⟩ | ⟨h_9, hp⟩
      · try simp at h_9
        cases hp
        simp [Goal, FnEnd, h_4, h_8, h_9]
      · try simp at h_9
        cases hp
        simp [Goal, FnEnd, h_4, h_8, h_9]
    · try simp at h_8
      cases hp
      simp [Goal, FnEnd, h_4, h_8]
  · try simp at h_4
    cases hp
    simp [Goal, FnEnd, h_4]
theorem pc191 : PC Try.prog 191 C191 := pc_of (g := g191) (ctxOK_of [(132, C132)] rfl ⟨pc132, trivial⟩) ⟨Try.f191, Try.func191, by kernel_rfl, by kernel_rfl⟩ fun x y h => w191 h

abbrev G192 (g : Cfg) : Prop := Has Try.prog g 192 Try.f192 [] [(4, { hd := [1, 2, 15, 16, 17], bx := [], ex := [], rt := [6] })] [] []
set_option maxHeartbeats 4000000 in
set_option maxRecDepth 100000 in
theorem wI192 {g : Cfg} (G : G192 g) {d : Nat} {mem : Mem} (hT : Tight d mem)  {s1 : (List Int)} {s2 : (List Int)} {eq : (Int → Int → Option (Bool))} {m_0 : Md} (hm_0 : LentM m_0) {m_1 : Md} (hm_1 : LentM m_1) {fk_eq : Nat} {caps_eq : List (Key × Nat)} (hl_eq : ∀ c ∈ caps_eq, c.1.1 ≤ d) (hc_eq : Clo g d mem fk_eq caps_eq fun x : Int × Int × Unit => eq x.1 x.2.1) {y} (hp : slices_EqualFunc_intint_int_int_ s1 s2 eq = some y) : callo g d 192 [av m_0 s1, av m_1 s2, .one (.fn fk_eq caps_eq)] mem = some (Res.res y, mem) := by
  have gP := G.P; have gt := G.tk; have gg := G.gh
  have k_4 := G.kp (4, { hd := [1, 2, 15, 16, 17], bx := [], ex := [], rt := [6] }) (by simp)
  have hT2 : memKill (fun k => decide (d < k.1)) mem = mem := hT
  refine start_in (Try.f192.body.getD .skip) [.tmp 6] G Try.func192 (by kernel_rfl) (by simp [Try.ntmps192]) rfl ?_
  unfold slices_EqualFunc_intint_int_int_ at hp
  simp [Try.f192, gP, gt, gg, hm_0.copy, hm_0.elem, hm_1.copy, hm_1.elem]
  rcases cond_cases hp with ⟨h_1, hp⟩ | ⟨h_1, hp⟩
  · try simp at h_1
    cases hp
    simp [Goal, FnEndI, memKill_hi, gP, gt, gg, hm_0.copy, hm_0.elem, hm_1.copy, hm_1.elem, h_1, hT2]
  · try simp at h_1
    try simp [gP, gt, gg, hm_0.copy, hm_0.elem, hm_1.copy, hm_1.elem, h_1]
    obtain ⟨r_27, h_28, hp⟩ := bind_some hp
    obtain ⟨I_4, I_4_⟩ : ∃ I : Int → St → Prop, I = (fun (s_2 : Int) (σ : St) => σ.env 1 = .one (.l m_1 s2.length (encL s2)) ∧ σ.env 2 = .one (.fn fk_eq caps_eq) ∧ σ.env 15 = .one (.l m_0 s1.length (encL s1)) ∧ σ.env 16 = .one (.s (.int .i64 (s1.length : Int))) ∧ σ.env 17 = .one (.s (.int .i64 s_2)) ∧ σ.mem = mem) := ⟨_, rfl⟩
    obtain ⟨X_5, X_5_⟩ : ∃ X : ((Unit) ⊕ (Unit)) → Out → Prop, X = (fun (r_27 : (Unit) ⊕ (Unit)) (out : Out) => Sum.elim (fun r_27 => ∃ σ : St, out = .ret σ ∧ σ.env 6 = .one (.s (.bool false)) ∧ σ.mem = mem) (fun r_27 => ∃ σ : St, out = .exit 0 σ ∧ σ.mem = mem) r_27) := ⟨_, rfl⟩
    refine loopP ({ hd := [1, 2, 15, 16, 17], bx := [], ex := [], rt := [6] }) I_4 X_5 h_28 (by exact k_4) ?_ ?_ ?_
    · rw [I_4_]
      exact ⟨by simp [restrict_env, gP, gt, gg, hm_0.copy, hm_0.elem, hm_1.copy, hm_1.elem, h_1], by simp [restrict_env, gP, gt, gg, hm_0.copy, hm_0.elem, hm_1.copy, hm_1.elem, h_1] <;> first | (intro x x1 x2 hx; have h0 := hl_eq _ hx; simp at h0; omega) | (intro x hx; have h0 := hl_eq _ hx; simp at h0; omega), by simp [restrict_env, gP, gt, gg, hm_0.copy, hm_0.elem, hm_1.copy, hm_1.elem, h_1], by simp [restrict_env, gP, gt, gg, hm_0.copy, hm_0.elem, hm_1.copy, hm_1.elem, h_1], by simp [restrict_env, gP, gt, gg, hm_0.copy, hm_0.elem, hm_1.copy, hm_1.elem, h_1], by simp [restrict_mem, gP, gt, gg, hm_0.copy, hm_0.elem, hm_1.copy, hm_1.elem, h_1]⟩
    · intro s_2 σ_6 a_3 hI hp
      rw [I_4_] at hI
      obtain ⟨q_7, q_8, q_9, q_10, q_11, q_12⟩ := hI
      try simp [gP, gt, gg, hm_0.copy, hm_0.elem, hm_1.copy, hm_1.elem, h_1, q_7, q_8, q_9, q_10, q_11, q_12]
      rcases cond_cases hp with ⟨h_13, hp⟩ | ⟨h_13, hp⟩
      · try simp at h_13
        obtain ⟨e_14, h_15, hp⟩ := bind_some hp
        have b_16 := at_lo h_15
        have b_17 := at_hi h_15
        try simp at b_16
        try simp at b_17
        have c_18 := seg_at' h_15 0 1 (by decide) (ds := [.sc (.int .i64 e_14)]) rfl
        try simp at c_18
        obtain ⟨e_19, h_20, hp⟩ := bind_some hp
        have b_21 := at_lo h_20
        have b_22 := at_hi h_20
        try simp at b_21
        try simp at b_22
        have c_23 := seg_at' h_20 0 1 (by decide) (ds := [.sc (.int .i64 e_19)]) rfl
        try simp at c_23
        obtain ⟨y_24, h_25, hp⟩ := bind_some hp
        try simp [gP, gt, gg, hm_0.copy, hm_0.elem, hm_1.copy, hm_1.elem, h_1, q_7, q_8, q_9, q_10, q_11, q_12, h_13, b_16, b_17, c_18, b_21, b_22, c_23]
        refine goal_call ([av .shr e_14, av .shr e_19] ++ capsAV caps_eq) (Res.res y_24) (by simp [capsAV, gP, gt, gg, hm_0.copy, hm_0.elem, hm_1.copy, hm_1.elem, h_1, q_7, q_8, q_9, q_10, q_11, q_12, h_13]) (hc_eq _ _ _ (e_14, e_19, ()) _ (Nat.le_succ d) (fun k hk => by first | rfl | rw [q_12]) (by repeat (first | exact tight_mem0 _ | exact hT.up | exact hT | (simp only [q_7, q_8, q_9, q_10, q_11, q_12]; done) | refine Tight.upd ?_ (by simp) (by simp))) ⟨_, _, (.inl rfl), rfl, ⟨_, _, (.inl rfl), rfl, rfl⟩⟩ h_25) ?_
        try simp [gP, gt, gg, hm_0.copy, hm_0.elem, hm_1.copy, hm_1.elem, h_1, q_7, q_8, q_9, q_10, q_11, q_12, h_13]
        rcases cond_cases hp with ⟨h_26, hp⟩ | ⟨h_26, hp⟩
        · try simp at h_26
          cases hp
          try simp [gP, gt, gg, hm_0.copy, hm_0.elem, hm_1.copy, hm_1.elem, h_1, q_7, q_8, q_9, q_10, q_11, q_12, h_13, h_26]
          refine goal_next ?_
          rw [I_4_]
          exact ⟨by simp [restrict_env, gP, gt, gg, hm_0.copy, hm_0.elem, hm_1.copy, hm_1.elem, h_1, q_7, q_8, q_9, q_10, q_11, q_12, h_13, h_26], by simp [restrict_env, gP, gt, gg, hm_0.copy, hm_0.elem, hm_1.copy, hm_1.elem, h_1, q_7, q_8, q_9, q_10, q_11, q_12, h_13, h_26] <;> first | (intro x x1 x2 hx; have h0 := hl_eq _ hx; simp at h0; omega) | (intro x hx; have h0 := hl_eq _ hx; simp at h0; omega), by simp [restrict_env, gP, gt, gg, hm_0.copy, hm_0.elem, hm_1.copy, hm_1.elem, h_1, q_7, q_8, q_9, q_10, q_11, q_12, h_13, h_26], by simp [restrict_env, gP, gt, gg, hm_0.copy, hm_0.elem, hm_1.copy, hm_1.elem, h_1, q_7, q_8, q_9, q_10, q_11, q_12, h_13, h_26], by simp [restrict_env, gP, gt, gg, hm_0.copy, hm_0.elem, hm_1.copy, hm_1.elem, h_1, q_7, q_8, q_9, q_10, q_11, q_12, h_13, h_26], by simp [restrict_mem, gP, gt, gg, hm_0.copy, hm_0.elem, hm_1.copy, hm_1.elem, h_1, q_7, q_8, q_9, q_10, q_11, q_12, h_13, h_26]⟩
        · try simp at h_26
          cases hp
          try simp [gP, gt, gg, hm_0.copy, hm_0.elem, hm_1.copy, hm_1.elem, h_1, q_7, q_8, q_9, q_10, q_11, q_12, h_13, h_26]
          refine goal_outR ?_
          rw [X_5_]
          exact ⟨_, rfl, by simp [restrict_env, gP, gt, gg, hm_0.copy, hm_0.elem, hm_1.copy, hm_1.elem, h_1, q_7, q_8, q_9, q_10, q_11, q_12, h_13, h_26], by simp [restrict_mem, gP, gt, gg, hm_0.copy, hm_0.elem, hm_1.copy, hm_1.elem, h_1, q_7, q_8, q_9, q_10, q_11, q_12, h_13, h_26]⟩
      · try simp at h_13
        cases hp
        try simp [gP, gt, gg, hm_0.copy, hm_0.elem, hm_1.copy, hm_1.elem, h_1, q_7, q_8, q_9, q_10, q_11, q_12, h_13]
        refine goal_outX ?_
        rw [X_5_]
        exact ⟨_, rfl, by simp [restrict_mem, gP, gt, gg, hm_0.copy, hm_0.elem, hm_1.copy, hm_1.elem, h_1, q_7, q_8, q_9, q_10, q_11, q_12, h_13]⟩
    · intro out hX
      rw [X_5_] at hX
      rcases r_27 with r_27 | r_27
      · simp only [Sum.elim_inl, Sum.elim_inr] at hX hp
        obtain ⟨σ_29, rfl, q_30, q_31⟩ := hX
        cases hp
        simp [Goal, FnEndI, memKill_hi, gP, gt, gg, hm_0.copy, hm_0.elem, hm_1.copy, hm_1.elem, h_1, q_30, q_31, hT2]
      · simp only [Sum.elim_inl, Sum.elim_inr] at hX hp
        obtain ⟨σ_32, rfl, q_33⟩ := hX
        cases hp
        simp [Goal, FnEndI, memKill_hi, gP, gt, gg, hm_0.copy, hm_0.elem, hm_1.copy, hm_1.elem, h_1, q_33, hT2]

noncomputable def C190 : List AV → Option AV := specP (X := TNode × TNode × Unit) fun x => impl_isWithinNode x.1 x.2.1
theorem C190_eq {x_ y_} {y} (h : impl_isWithinNode x_ y_ = some y) : C190 [av .shr x_, av .shr y_] = some (Res.res y) := specP_eq (X := TNode × TNode × Unit) (F := fun x => impl_isWithinNode x.1 x.2.1) (x := (x_, y_, ())) h
noncomputable def g190 : Cfg := { P := Try.prog, take := [], keep := [((192, 4), { hd := [1, 2, 15, 16, 17], bx := [], ex := [], rt := [6] })], gho := [], ctx := [(191, C191)] }
@[simp] theorem g190_P : g190.P = Try.prog := rfl
@[simp] theorem g190_t : g190.take = [] := rfl
@[simp] theorem g190_g : g190.gho = [] := rfl
@[simp] theorem g190_191 : lookN 191 g190.ctx = some C191 := rfl
@[simp] theorem g190_192 : lookN 192 g190.ctx = none := rfl
set_option maxHeartbeats 4000000 in
set_option maxRecDepth 100000 in
theorem w190 {x_ y_} {y} (hp : impl_isWithinNode x_ y_ = some y) : ∃ m, callo g190 0 190 [av .shr x_, av .shr y_] mem0 = some (Res.res y, m) := by
  have G_192 : G192 g190 := ⟨rfl, by kernel_rfl, rfl, fun t => by simp, fun i => by simp [lookK], by simp [g190, lookK], by simp⟩
  refine start_fn (Try.f190.body.getD .skip) [.tmp 4] rfl rfl Try.func190 (by kernel_rfl) (by kernel_rfl) (by simp [Try.ntmps190]) rfl ?_
  unfold impl_isWithinNode at hp
  obtain ⟨y_1, h_2, hp⟩ := bind_some hp
  simp [Try.f190]
  refine goal_call [av .shr x_.vars, av .shr y_.vars, .one (.fn 191 [])] (Res.res y_1) (by simp) (wI192 G_192 (by repeat (first | exact tight_mem0 _ | exact hT.up | exact hT | (simp only [true_and]; done) | refine Tight.upd ?_ (by simp) (by simp))) (.inl rfl) (.inl rfl) (by simp) (clo_ctx (by rfl)) h_2) ?_
  try simp
  rcases cond_cases hp with ⟨h_3, hp⟩ | ⟨h_3, hp⟩
  · try simp at h_3
    obtain ⟨y_4, h_5, hp⟩ := bind_some hp
    try simp [h_3]
    refine goal_call [av .shr x_.reach, av .shr y_.reach, .one (.fn 191 [])] (Res.res y_4) (by simp [h_3]) (wI192 G_192 (by repeat (first | exact tight_mem0 _ | exact hT.up | exact hT | (simp only [true_and]; done) | refine Tight.upd ?_ (by simp) (by simp))) (.inl rfl) (.inl rfl) (by simp) (clo_ctx (by rfl)) h_5) ?_
    try simp [h_3]
    rcases cond_cases hp with ⟨h_6, hp⟩ | ⟨h_6, hp⟩
    · try simp at h_6
      obtain ⟨y_7, h_8, hp⟩ := bind_some hp
      have c_9 := C191_eq h_8
      simp at c_9
      try simp [h_3, h_6, c_9]
      rcases cond_cases hp with ⟨h_10, hp⟩ | ⟨h_10, hp⟩
      · try simp at h_10
        obtain ⟨y_11, h_12, hp⟩ := bind_some hp
        have c_13 := C191_eq h_12
        simp at c_13
        cases hp
        simp [Goal, FnEnd, h_3, h_6, h_10, c_13]
      · try simp at h_10
        cases hp
        simp [Goal, FnEnd, h_3, h_6, h_10]
    · try simp at h_6
      cases hp
      simp [Goal, FnEnd, h_3, h_6]
  · try simp at h_3
    cases hp
    simp [Goal, FnEnd, h_3]
theorem pc190 : PC Try.prog 190 C190 := pc_of (g := g190) (ctxOK_of [(191, C191)] rfl ⟨pc191, trivial⟩) ⟨Try.f190, Try.func190, by kernel_rfl, by kernel_rfl⟩ fun x y h => w190 h

noncomputable def C81 : List AV → Option AV := specP (X := TStructure × Int × Int × Unit) fun x => impl_NextOf x.1 x.2.1 x.2.2.1
theorem C81_eq {s i j} {y} (h : impl_NextOf s i j = some y) : C81 [av .shr s, av .shr i, av .shr j] = some (Res.res y) := specP_eq (X := TStructure × Int × Int × Unit) (F := fun x => impl_NextOf x.1 x.2.1 x.2.2.1) (x := (s, i, j, ())) h
noncomputable def g81 : Cfg := { P := Try.prog, take := [], keep := [], gho := [], ctx := [(134, C134)] }
@[simp] theorem g81_P : g81.P = Try.prog := rfl
@[simp] theorem g81_t : g81.take = [] := rfl
@[simp] theorem g81_g : g81.gho = [] := rfl
@[simp] theorem g81_134 : lookN 134 g81.ctx = some C134 := rfl
set_option maxHeartbeats 4000000 in
set_option maxRecDepth 100000 in
theorem w81 {s i j} {y} (hp : impl_NextOf s i j = some y) : ∃ m, callo g81 0 81 [av .shr s, av .shr i, av .shr j] mem0 = some (Res.res y, m) := by
  refine start_fn (Try.f81.body.getD .skip) [.tmp 6] rfl rfl Try.func81 (by kernel_rfl) (by kernel_rfl) (by simp [Try.ntmps81]) rfl ?_
  unfold impl_NextOf at hp
  obtain ⟨y_1, h_2, hp⟩ := bind_some hp
  have c_3 := C134_eq h_2
  simp at c_3
  simp [Try.f81, c_3]
  rcases cond_cases hp with ⟨h_4, hp⟩ | ⟨h_4, hp⟩
  · try simp at h_4
    obtain ⟨y_5, h_6, hp⟩ := bind_some hp
    have c_7 := C134_eq h_6
    simp at c_7
    try simp [h_4, c_7]
    rcases cond_cases hp with ⟨h_8, hp⟩ | ⟨h_8, hp⟩
    · try simp at h_8
      try simp [h_4, h_8]
      rcases cond_cases hp with ⟨h_9, hp⟩ | ⟨h_9, hp⟩
      · try simp at h_9
        cases hp
        simp [Goal, FnEnd, h_4, h_8, h_9]
      · try simp at h_9
        obtain ⟨e_10, h_11, hp⟩ := bind_some hp
        have b_12 := at_lo h_11
        have b_13 := at_hi h_11
        try simp at b_12
        try simp at b_13
        have c_14 := seg_at' h_11 0 1 (by decide) (ds := [.sc (.int .i64 e_10)]) rfl
        try simp at c_14
        cases hp
        simp [Goal, FnEnd, h_4, h_8, h_9, b_12, b_13, c_14]
    · try simp at h_8
      cases hp
      simp [Goal, FnEnd, h_4, h_8]
  · try simp at h_4
    cases hp
    simp [Goal, FnEnd, h_4]
theorem pc81 : PC Try.prog 81 C81 := pc_of (g := g81) (ctxOK_of [(134, C134)] rfl ⟨pc134, trivial⟩) ⟨Try.f81, Try.func81, by kernel_rfl, by kernel_rfl⟩ fun x y h => w81 h

noncomputable def C189 : List AV → Option AV := specP (X := TStructure × TStructure × (List Int) × Unit) fun x => impl_fitsSoFar x.1 x.2.1 x.2.2.1
theorem C189_eq {s t to_} {y} (h : impl_fitsSoFar s t to_ = some y) : C189 [av .shr s, av .shr t, av .shr to_] = some (Res.res y) := specP_eq (X := TStructure × TStructure × (List Int) × Unit) (F := fun x => impl_fitsSoFar x.1 x.2.1 x.2.2.1) (x := (s, t, to_, ())) h
noncomputable def g189 : Cfg := { P := Try.prog, take := [], keep := [((189, 5), { hd := [2, 3, 4, 7, 37, 38, 39], bx := [], ex := [], rt := [6] })], gho := [], ctx := [(81, C81), (134, C134), (190, C190), (191, C191)] }
@[simp] theorem g189_P : g189.P = Try.prog := rfl
@[simp] theorem g189_t : g189.take = [] := rfl
@[simp] theorem g189_g : g189.gho = [] := rfl
@[simp] theorem g189_81 : lookN 81 g189.ctx = some C81 := rfl
@[simp] theorem g189_134 : lookN 134 g189.ctx = some C134 := rfl
@[simp] theorem g189_190 : lookN 190 g189.ctx = some C190 := rfl
@[simp] theorem g189_191 : lookN 191 g189.ctx = some C191 := rfl
set_option maxHeartbeats 4000000 in
set_option maxRecDepth 100000 in
theorem w189 {s t to_} {y} (hp : impl_fitsSoFar s t to_ = some y) : ∃ m, callo g189 0 189 [av .shr s, av .shr t, av .shr to_] mem0 = some (Res.res y, m) := by
  refine start_fn (Try.f189.body.getD .skip) [.tmp 6] rfl rfl Try.func189 (by kernel_rfl) (by kernel_rfl) (by simp [Try.ntmps189]) rfl ?_
  unfold impl_fitsSoFar at hp
  obtain ⟨e_1, h_2, hp⟩ := bind_some hp
  have b_3 := at_lo h_2
  have b_4 := at_hi h_2
  try simp at b_3
  try simp at b_4
  have c_5 := seg_at' h_2 0 1 (by decide) (ds := [.sc (.int .i64 e_1)]) rfl
  try simp at c_5
  obtain ⟨y_6, h_7, hp⟩ := bind_some hp
  have c_8 := C134_eq h_7
  simp at c_8
  simp [Try.f189, b_3, b_4, c_5, c_8]
  rcases cond_cases hp with ⟨h_9, hp⟩ | ⟨h_9, hp⟩
  · try simp at h_9
    obtain ⟨e_10, h_11, hp⟩ := bind_some hp
    have b_12 := at_lo h_11
    have b_13 := at_hi h_11
    try simp at b_12
    try simp at b_13
    have c_14 := seg_at' h_11 0 4 (by decide) (ds := [.sl e_10.vars.length (encL e_10.vars), .sl e_10.reach.length (encL e_10.reach), .sc (.int .i64 e_10.shared), .sc (.int .i64 e_10.many)]) rfl
    try simp at c_14
    obtain ⟨e_15, h_16, hp⟩ := bind_some hp
    cases Option.some.inj (h_2.symm.trans h_16)
    have b_17 := at_lo h_2
    have b_18 := at_hi h_2
    try simp at b_17
    try simp at b_18
    have c_19 := seg_at' h_2 0 1 (by decide) (ds := [.sc (.int .i64 e_1)]) rfl
    try simp at c_19
    obtain ⟨e_20, h_21, hp⟩ := bind_some hp
    have b_22 := at_lo h_21
    have b_23 := at_hi h_21
    try simp at b_22
    try simp at b_23
    have c_24 := seg_at' h_21 0 4 (by decide) (ds := [.sl e_20.vars.length (encL e_20.vars), .sl e_20.reach.length (encL e_20.reach), .sc (.int .i64 e_20.shared), .sc (.int .i64 e_20.many)]) rfl
    try simp at c_24
    obtain ⟨y_25, h_26, hp⟩ := bind_some hp
    have c_27 := C190_eq h_26
    simp at c_27
    try simp [h_9, b_12, b_13, c_14, b_17, b_18, c_19, b_22, b_23, c_24, c_27]
    rcases cond_cases hp with ⟨h_28, hp⟩ | ⟨h_28, hp⟩
    · try simp at h_28
      try simp [h_9, h_28]
      obtain ⟨r_153, h_154, hp⟩ := bind_some hp
      obtain ⟨I_31, I_31_⟩ : ∃ I : Int → St → Prop, I = (fun (s_29 : Int) (σ : St) => σ.env 2 = .one (.l .shr to_.length (encL to_)) ∧ σ.env 3 = .one (.ptr (1, 3) 0) ∧ σ.env 4 = .one (.ptr (1, 4) 0) ∧ σ.env 7 = .one (.s (.int .i64 (subI (to_.length : Int) 1))) ∧ σ.env 37 = .one (.l .shr to_.length (encL to_)) ∧ σ.env 38 = .one (.s (.int .i64 (to_.length : Int))) ∧ σ.env 39 = .one (.s (.int .i64 s_29)) ∧ σ.mem (1, 3) = some [(.l .shr s.nodes.length (encL s.nodes)), (.l .shr s.next.length (encL s.next))] ∧ σ.mem (1, 4) = some [(.l .shr t.nodes.length (encL t.nodes)), (.l .shr t.next.length (encL t.next))] ∧ NoBox [(1, 3), (1, 4)] σ.mem) := ⟨_, rfl⟩
      obtain ⟨X_32, X_32_⟩ : ∃ X : ((Unit) ⊕ (Unit)) → Out → Prop, X = (fun (r_153 : (Unit) ⊕ (Unit)) (out : Out) => Sum.elim (fun r_153 => ∃ σ : St, out = .ret σ ∧ σ.env 6 = .one (.s (.bool false)) ∧ σ.mem (1, 3) = some [(.l .shr s.nodes.length (encL s.nodes)), (.l .shr s.next.length (encL s.next))] ∧ σ.mem (1, 4) = some [(.l .shr t.nodes.length (encL t.nodes)), (.l .shr t.next.length (encL t.next))] ∧ NoBox [(1, 3), (1, 4)] σ.mem) (fun r_153 => ∃ σ : St, out = .exit 0 σ ∧ σ.mem (1, 3) = some [(.l .shr s.nodes.length (encL s.nodes)), (.l .shr s.next.length (encL s.next))] ∧ σ.mem (1, 4) = some [(.l .shr t.nodes.length (encL t.nodes)), (.l .shr t.next.length (encL t.next))] ∧ NoBox [(1, 3), (1, 4)] σ.mem) r_153) := ⟨_, rfl⟩
      refine loopP ({ hd := [2, 3, 4, 7, 37, 38, 39], bx := [], ex := [], rt := [6] }) I_31 X_32 h_154 (by exact rfl) ?_ ?_ ?_
      · rw [I_31_]
        exact ⟨by simp [restrict_env, h_9, h_28], by simp [restrict_env, h_9, h_28], by simp [restrict_env, h_9, h_28], by simp [restrict_env, h_9, h_28], by simp [restrict_env, h_9, h_28], by simp [restrict_env, h_9, h_28], by simp [restrict_env, h_9, h_28], by simp [restrict_mem, h_9, h_28], by simp [restrict_mem, h_9, h_28], NoBox.restrict (by intro k hk hb; simp at hk hb; simp [hk, hb, h_9, h_28])⟩
      · intro s_29 σ_33 a_30 hI hp
        rw [I_31_] at hI
        obtain ⟨q_34, q_35, q_36, q_37, q_38, q_39, q_40, q_41, q_42, hn_43⟩ := hI
        try simp [h_9, h_28, q_34, q_35, q_36, q_37, q_38, q_39, q_40, q_41, q_42]
        rcases cond_cases hp with ⟨h_44, hp⟩ | ⟨h_44, hp⟩
        · try simp at h_44
          obtain ⟨e_45, h_46, hp⟩ := bind_some hp
          have b_47 := at_lo h_46
          have b_48 := at_hi h_46
          try simp at b_47
          try simp at b_48
          have c_49 := seg_at' h_46 0 1 (by decide) (ds := [.sc (.int .i64 e_45)]) rfl
          try simp at c_49
          try simp [h_9, h_28, q_34, q_35, q_36, q_37, q_38, q_39, q_40, q_41, q_42, h_44, b_47, b_48, c_49]
          rcases cond_cases hp with ⟨h_50, hp⟩ | ⟨h_50, hp⟩
          · try simp at h_50
            obtain ⟨e_51, h_52, hp⟩ := bind_some hp
            cases Option.some.inj (h_2.symm.trans h_52)
            have b_53 := at_lo h_2
            have b_54 := at_hi h_2
            try simp at b_53
            try simp at b_54
            have c_55 := seg_at' h_2 0 1 (by decide) (ds := [.sc (.int .i64 e_1)]) rfl
            try simp at c_55
            try simp [h_9, h_28, q_34, q_35, q_36, q_37, q_38, q_39, q_40, q_41, q_42, h_44, h_50, b_53, b_54, c_55]
            rcases cond_cases hp with ⟨h_56, hp⟩ | ⟨h_56, hp⟩
            · try simp at h_56
              obtain ⟨e_57, h_58, hp⟩ := bind_some hp
              have b_59 := at_lo h_58
              have b_60 := at_hi h_58
              try simp at b_59
              try simp at b_60
              have c_61 := seg_at' h_58 3 1 (by decide) (ds := [.sc (.int .i64 e_57.many)]) rfl
              try simp at c_61
              try simp [h_9, h_28, q_34, q_35, q_36, q_37, q_38, q_39, q_40, q_41, q_42, h_44, h_50, h_56, b_59, b_60, c_61]
              rcases cond_cases hp with ⟨h_62, hp⟩ | ⟨h_62, hp⟩
              · try simp at h_62
                cases hp
                try simp [h_9, h_28, q_34, q_35, q_36, q_37, q_38, q_39, q_40, q_41, q_42, h_44, h_50, h_56, h_62]
                refine goal_outR ?_
                rw [X_32_]
                exact ⟨_, rfl, by simp [restrict_env, h_9, h_28, q_34, q_35, q_36, q_37, q_38, q_39, q_40, q_41, q_42, h_44, h_50, h_56, h_62], by simp [restrict_mem, h_9, h_28, q_34, q_35, q_36, q_37, q_38, q_39, q_40, q_41, q_42, h_44, h_50, h_56, h_62], by simp [restrict_mem, h_9, h_28, q_34, q_35, q_36, q_37, q_38, q_39, q_40, q_41, q_42, h_44, h_50, h_56, h_62], NoBox.restrict (by intro k hk hb; simp at hk hb; simp [hk, hb, h_9, h_28, q_34, q_35, q_36, q_37, q_38, q_39, q_40, q_41, q_42, h_44, h_50, h_56, h_62, hn_43 k (by simp [hk, hb])])⟩
              · try simp at h_62
                obtain ⟨y_63, h_64, hp⟩ := bind_some hp
                have c_65 := C81_eq h_64
                simp at c_65
                obtain ⟨e_66, h_67, hp⟩ := bind_some hp
                cases Option.some.inj (h_2.symm.trans h_67)
                have b_68 := at_lo h_2
                have b_69 := at_hi h_2
                try simp at b_68
                try simp at b_69
                have c_70 := seg_at' h_2 0 1 (by decide) (ds := [.sc (.int .i64 e_1)]) rfl
                try simp at c_70
                obtain ⟨y_71, h_72, hp⟩ := bind_some hp
                have c_73 := C81_eq h_72
                simp at c_73
                obtain ⟨y_74, h_75, hp⟩ := bind_some hp
                have c_76 := C191_eq h_75
                simp at c_76
                try simp [h_9, h_28, q_34, q_35, q_36, q_37, q_38, q_39, q_40, q_41, q_42, h_44, h_50, h_56, h_62, c_65, b_68, b_69, c_70, c_73, c_76]
                rcases cond_cases hp with ⟨h_77, hp⟩ | ⟨h_77, hp⟩
                · try simp at h_77
                  obtain ⟨y_78, h_79, hp⟩ := bind_some hp
                  have c_80 := C81_eq h_79
                  simp at c_80
                  obtain ⟨e_81, h_82, hp⟩ := bind_some hp
                  cases Option.some.inj (h_2.symm.trans h_82)
                  have b_83 := at_lo h_2
                  have b_84 := at_hi h_2
                  try simp at b_83
                  try simp at b_84
                  have c_85 := seg_at' h_2 0 1 (by decide) (ds := [.sc (.int .i64 e_1)]) rfl
                  try simp at c_85
                  obtain ⟨y_86, h_87, hp⟩ := bind_some hp
                  have c_88 := C81_eq h_87
                  simp at c_88
                  obtain ⟨y_89, h_90, hp⟩ := bind_some hp
                  have c_91 := C191_eq h_90
                  simp at c_91
                  try simp [h_9, h_28, q_34, q_35, q_36, q_37, q_38, q_39, q_40, q_41, q_42, h_44, h_50, h_56, h_62, h_77, c_80, b_83, b_84, c_85, c_88, c_91]
                  rcases cond_cases hp with ⟨h_92, hp⟩ | ⟨h_92, hp⟩
                  · try simp at h_92
                    cases hp
                    try simp [h_9, h_28, q_34, q_35, q_36, q_37, q_38, q_39, q_40, q_41, q_42, h_44, h_50, h_56, h_62, h_77, h_92]
                    refine goal_next ?_
                    rw [I_31_]
                    exact ⟨by simp [restrict_env, h_9, h_28, q_34, q_35, q_36, q_37, q_38, q_39, q_40, q_41, q_42, h_44, h_50, h_56, h_62, h_77, h_92], by simp [restrict_env, h_9, h_28, q_34, q_35, q_36, q_37, q_38, q_39, q_40, q_41, q_42, h_44, h_50, h_56, h_62, h_77, h_92], by simp [restrict_env, h_9, h_28, q_34, q_35, q_36, q_37, q_38, q_39, q_40, q_41, q_42, h_44, h_50, h_56, h_62, h_77, h_92], by simp [restrict_env, h_9, h_28, q_34, q_35, q_36, q_37, q_38, q_39, q_40, q_41, q_42, h_44, h_50, h_56, h_62, h_77, h_92], by simp [restrict_env, h_9, h_28, q_34, q_35, q_36, q_37, q_38, q_39, q_40, q_41, q_42, h_44, h_50, h_56, h_62, h_77, h_92], by simp [restrict_env, h_9, h_28, q_34, q_35, q_36, q_37, q_38, q_39, q_40, q_41, q_42, h_44, h_50, h_56, h_62, h_77, h_92], by simp [restrict_env, h_9, h_28, q_34, q_35, q_36, q_37, q_38, q_39, q_40, q_41, q_42, h_44, h_50, h_56, h_62, h_77, h_92], by simp [restrict_mem, h_9, h_28, q_34, q_35, q_36, q_37, q_38, q_39, q_40, q_41, q_42, h_44, h_50, h_56, h_62, h_77, h_92], by simp [restrict_mem, h_9, h_28, q_34, q_35, q_36, q_37, q_38, q_39, q_40, q_41, q_42, h_44, h_50, h_56, h_62, h_77, h_92], NoBox.restrict (by intro k hk hb; simp at hk hb; simp [hk, hb, h_9, h_28, q_34, q_35, q_36, q_37, q_38, q_39, q_40, q_41, q_42, h_44, h_50, h_56, h_62, h_77, h_92, hn_43 k (by simp [hk, hb])])⟩
                  · try simp at h_92
                    cases hp
                    try simp [h_9, h_28, q_34, q_35, q_36, q_37, q_38, q_39, q_40, q_41, q_42, h_44, h_50, h_56, h_62, h_77, h_92]
                    refine goal_outR ?_
                    rw [X_32_]
                    exact ⟨_, rfl, by simp [restrict_env, h_9, h_28, q_34, q_35, q_36, q_37, q_38, q_39, q_40, q_41, q_42, h_44, h_50, h_56, h_62, h_77, h_92], by simp [restrict_mem, h_9, h_28, q_34, q_35, q_36, q_37, q_38, q_39, q_40, q_41, q_42, h_44, h_50, h_56, h_62, h_77, h_92], by simp [restrict_mem, h_9, h_28, q_34, q_35, q_36, q_37, q_38, q_39, q_40, q_41, q_42, h_44, h_50, h_56, h_62, h_77, h_92], NoBox.restrict (by intro k hk hb; simp at hk hb; simp [hk, hb, h_9, h_28, q_34, q_35, q_36, q_37, q_38, q_39, q_40, q_41, q_42, h_44, h_50, h_56, h_62, h_77, h_92, hn_43 k (by simp [hk, hb])])⟩
                · try simp at h_77
                  cases hp
                  try simp [h_9, h_28, q_34, q_35, q_36, q_37, q_38, q_39, q_40, q_41, q_42, h_44, h_50, h_56, h_62, h_77]
                  refine goal_outR ?_
                  rw [X_32_]
                  exact ⟨_, rfl, by simp [restrict_env, h_9, h_28, q_34, q_35, q_36, q_37, q_38, q_39, q_40, q_41, q_42, h_44, h_50, h_56, h_62, h_77], by simp [restrict_mem, h_9, h_28, q_34, q_35, q_36, q_37, q_38, q_39, q_40, q_41, q_42, h_44, h_50, h_56, h_62, h_77], by simp [restrict_mem, h_9, h_28, q_34, q_35, q_36, q_37, q_38, q_39, q_40, q_41, q_42, h_44, h_50, h_56, h_62, h_77], NoBox.restrict (by intro k hk hb; simp at hk hb; simp [hk, hb, h_9, h_28, q_34, q_35, q_36, q_37, q_38, q_39, q_40, q_41, q_42, h_44, h_50, h_56, h_62, h_77, hn_43 k (by simp [hk, hb])])⟩
            · try simp at h_56
              obtain ⟨y_93, h_94, hp⟩ := bind_some hp
              have c_95 := C81_eq h_94
              simp at c_95
              obtain ⟨e_96, h_97, hp⟩ := bind_some hp
              cases Option.some.inj (h_2.symm.trans h_97)
              have b_98 := at_lo h_2
              have b_99 := at_hi h_2
              try simp at b_98
              try simp at b_99
              have c_100 := seg_at' h_2 0 1 (by decide) (ds := [.sc (.int .i64 e_1)]) rfl
              try simp at c_100
              obtain ⟨y_101, h_102, hp⟩ := bind_some hp
              have c_103 := C81_eq h_102
              simp at c_103
              obtain ⟨y_104, h_105, hp⟩ := bind_some hp
              have c_106 := C191_eq h_105
              simp at c_106
              try simp [h_9, h_28, q_34, q_35, q_36, q_37, q_38, q_39, q_40, q_41, q_42, h_44, h_50, h_56, c_95, b_98, b_99, c_100, c_103, c_106]
              rcases cond_cases hp with ⟨h_107, hp⟩ | ⟨h_107, hp⟩
              · try simp at h_107
                obtain ⟨y_108, h_109, hp⟩ := bind_some hp
                have c_110 := C81_eq h_109
                simp at c_110
                obtain ⟨e_111, h_112, hp⟩ := bind_some hp
                cases Option.some.inj (h_2.symm.trans h_112)
                have b_113 := at_lo h_2
                have b_114 := at_hi h_2
                try simp at b_113
                try simp at b_114
                have c_115 := seg_at' h_2 0 1 (by decide) (ds := [.sc (.int .i64 e_1)]) rfl
                try simp at c_115
                obtain ⟨y_116, h_117, hp⟩ := bind_some hp
                have c_118 := C81_eq h_117
                simp at c_118
                obtain ⟨y_119, h_120, hp⟩ := bind_some hp
                have c_121 := C191_eq h_120
                simp at c_121
                try simp [h_9, h_28, q_34, q_35, q_36, q_37, q_38, q_39, q_40, q_41, q_42, h_44, h_50, h_56, h_107, c_110, b_113, b_114, c_115, c_118, c_121]
                rcases cond_cases hp with ⟨h_122, hp⟩ | ⟨h_122, hp⟩
                · try simp at h_122
                  cases hp
                  try simp [h_9, h_28, q_34, q_35, q_36, q_37, q_38, q_39, q_40, q_41, q_42, h_44, h_50, h_56, h_107, h_122]
                  refine goal_next ?_
                  rw [I_31_]
                  exact ⟨by simp [restrict_env, h_9, h_28, q_34, q_35, q_36, q_37, q_38, q_39, q_40, q_41, q_42, h_44, h_50, h_56, h_107, h_122], by simp [restrict_env, h_9, h_28, q_34, q_35, q_36, q_37, q_38, q_39, q_40, q_41, q_42, h_44, h_50, h_56, h_107, h_122], by simp [restrict_env, h_9, h_28, q_34, q_35, q_36, q_37, q_38, q_39, q_40, q_41, q_42, h_44, h_50, h_56, h_107, h_122], by simp [restrict_env, h_9, h_28, q_34, q_35, q_36, q_37, q_38, q_39, q_40, q_41, q_42, h_44, h_50, h_56, h_107, h_122], by simp [restrict_env, h_9, h_28, q_34, q_35, q_36, q_37, q_38, q_39, q_40, q_41, q_42, h_44, h_50, h_56, h_107, h_122], by simp [restrict_env, h_9, h_28, q_34, q_35, q_36, q_37, q_38, q_39, q_40, q_41, q_42, h_44, h_50, h_56, h_107, h_122], by simp [restrict_env, h_9, h_28, q_34, q_35, q_36, q_37, q_38, q_39, q_40, q_41, q_42, h_44, h_50, h_56, h_107, h_122], by simp [restrict_mem, h_9, h_28, q_34, q_35, q_36, q_37, q_38, q_39, q_40, q_41, q_42, h_44, h_50, h_56, h_107, h_122], by simp [restrict_mem, h_9, h_28, q_34, q_35, q_36, q_37, q_38, q_39, q_40, q_41, q_42, h_44, h_50, h_56, h_107, h_122], NoBox.restrict (by intro k hk hb; simp at hk hb; simp [hk, hb, h_9, h_28, q_34, q_35, q_36, q_37, q_38, q_39, q_40, q_41, q_42, h_44, h_50, h_56, h_107, h_122, hn_43 k (by simp [hk, hb])])⟩
                · try simp at h_122
                  cases hp
                  try simp [h_9, h_28, q_34, q_35, q_36, q_37, q_38, q_39, q_40, q_41, q_42, h_44, h_50, h_56, h_107, h_122]
                  refine goal_outR ?_
                  rw [X_32_]
                  exact ⟨_, rfl, by simp [restrict_env, h_9, h_28, q_34, q_35, q_36, q_37, q_38, q_39, q_40, q_41, q_42, h_44, h_50, h_56, h_107, h_122], by simp [restrict_mem, h_9, h_28, q_34, q_35, q_36, q_37, q_38, q_39, q_40, q_41, q_42, h_44, h_50, h_56, h_107, h_122], by simp [restrict_mem, h_9, h_28, q_34, q_35, q_36, q_37, q_38, q_39, q_40, q_41, q_42, h_44, h_50, h_56, h_107, h_122], NoBox.restrict (by intro k hk hb; simp at hk hb; simp [hk, hb, h_9, h_28, q_34, q_35, q_36, q_37, q_38, q_39, q_40, q_41, q_42, h_44, h_50, h_56, h_107, h_122, hn_43 k (by simp [hk, hb])])⟩
              · try simp at h_107
                cases hp
                try simp [h_9, h_28, q_34, q_35, q_36, q_37, q_38, q_39, q_40, q_41, q_42, h_44, h_50, h_56, h_107]
                refine goal_outR ?_
                rw [X_32_]
                exact ⟨_, rfl, by simp [restrict_env, h_9, h_28, q_34, q_35, q_36, q_37, q_38, q_39, q_40, q_41, q_42, h_44, h_50, h_56, h_107], by simp [restrict_mem, h_9, h_28, q_34, q_35, q_36, q_37, q_38, q_39, q_40, q_41, q_42, h_44, h_50, h_56, h_107], by simp [restrict_mem, h_9, h_28, q_34, q_35, q_36, q_37, q_38, q_39, q_40, q_41, q_42, h_44, h_50, h_56, h_107], NoBox.restrict (by intro k hk hb; simp at hk hb; simp [hk, hb, h_9, h_28, q_34, q_35, q_36, q_37, q_38, q_39, q_40, q_41, q_42, h_44, h_50, h_56, h_107, hn_43 k (by simp [hk, hb])])⟩
          · try simp at h_50
            obtain ⟨y_123, h_124, hp⟩ := bind_some hp
            have c_125 := C81_eq h_124
            simp at c_125
            obtain ⟨e_126, h_127, hp⟩ := bind_some hp
            cases Option.some.inj (h_2.symm.trans h_127)
            have b_128 := at_lo h_2
            have b_129 := at_hi h_2
            try simp at b_128
            try simp at b_129
            have c_130 := seg_at' h_2 0 1 (by decide) (ds := [.sc (.int .i64 e_1)]) rfl
            try simp at c_130
            obtain ⟨y_131, h_132, hp⟩ := bind_some hp
            have c_133 := C81_eq h_132
            simp at c_133
            obtain ⟨y_134, h_135, hp⟩ := bind_some hp
            have c_136 := C191_eq h_135
            simp at c_136
            try simp [h_9, h_28, q_34, q_35, q_36, q_37, q_38, q_39, q_40, q_41, q_42, h_44, h_50, c_125, b_128, b_129, c_130, c_133, c_136]
            rcases cond_cases hp with ⟨h_137, hp⟩ | ⟨h_137, hp⟩
            · try simp at h_137
              obtain ⟨y_138, h_139, hp⟩ := bind_some hp
              have c_140 := C81_eq h_139
              simp at c_140
              obtain ⟨e_141, h_142, hp⟩ := bind_some hp
              cases Option.some.inj (h_2.symm.trans h_142)
              have b_143 := at_lo h_2
              have b_144 := at_hi h_2
              try simp at b_143
              try simp at b_144
              have c_145 := seg_at' h_2 0 1 (by decide) (ds := [.sc (.int .i64 e_1)]) rfl
              try simp at c_145
              obtain ⟨y_146, h_147, hp⟩ := bind_some hp
              have c_148 := C81_eq h_147
              simp at c_148
              obtain ⟨y_149, h_150, hp⟩ := bind_some hp
              have c_151 := C191_eq h_150
              simp at c_151
              try simp [h_9, h_28, q_34, q_35, q_36, q_37, q_38, q_39, q_40, q_41, q_42, h_44, h_50, h_137, c_140, b_143, b_144, c_145, c_148, c_151]
              rcases cond_cases hp with ⟨h_152, hp⟩ | ⟨h_152, hp⟩
              · try simp at h_152
                cases hp
                try simp [h_9, h_28, q_34, q_35, q_36, q_37, q_38, q_39, q_40, q_41, q_42, h_44, h_50, h_137, h_152]
                refine goal_next ?_
                rw [I_31_]
                exact ⟨by simp [restrict_env, h_9, h_28, q_34, q_35, q_36, q_37, q_38, q_39, q_40, q_41, q_42, h_44, h_50, h_137, h_152], by simp [restrict_env, h_9, h_28, q_34, q_35, q_36, q_37, q_38, q_39, q_40, q_41, q_42, h_44, h_50, h_137, h_152], by simp [restrict_env, h_9, h_28, q_34, q_35, q_36, q_37, q_38, q_39, q_40, q_41, q_42, h_44, h_50, h_137, h_152], by simp [restrict_env, h_9, h_28, q_34, q_35, q_36, q_37, q_38, q_39, q_40, q_41, q_42, h_44, h_50, h_137, h_152], by simp [restrict_env, h_9, h_28, q_34, q_35, q_36, q_37, q_38, q_39, q_40, q_41, q_42, h_44, h_50, h_137, h_152], by simp [restrict_env, h_9, h_28, q_34, q_35, q_36, q_37, q_38, q_39, q_40, q_41, q_42, h_44, h_50, h_137, h_152], by simp [restrict_env, h_9, h_28, q_34, q_35, q_36, q_37, q_38, q_39, q_40, q_41, q_42, h_44, h_50, h_137, h_152], by simp [restrict_mem, h_9, h_28, q_34, q_35, q_36, q_37, q_38, q_39, q_40, q_41, q_42, h_44, h_50, h_137, h_152], by simp [restrict_mem, h_9, h_28, q_34, q_35, q_36, q_37, q_38, q_39, q_40, q_41, q_42, h_44, h_50, h_137, h_152], NoBox.restrict (by intro k hk hb; simp at hk hb; simp [hk, hb, h_9, h_28, q_34, q_35, q_36, q_37, q_38, q_39, q_40, q_41, q_42, h_44, h_50, h_137, h_152, hn_43 k (by simp [hk, hb])])⟩
              · try simp at h_152
                cases hp
                try simp [h_9, h_28, q_34, q_35, q_36, q_37, q_38, q_39, q_40, q_41, q_42, h_44, h_50, h_137, h_152]
                refine goal_outR ?_
                rw [X_32_]
                exact ⟨_, rfl, by simp [restrict_env, h_9, h_28, q_34, q_35, q_36, q_37, q_38, q_39, q_40, q_41, q_42, h_44, h_50, h_137, h_152], by simp [restrict_mem, h_9, h_28, q_34, q_35, q_36, q_37, q_38, q_39, q_40, q_41, q_42, h_44, h_50, h_137, h_152], by simp [restrict_mem, h_9, h_28, q_34, q_35, q_36, q_37, q_38, q_39, q_40, q_41, q_42, h_44, h_50, h_137, h_152], NoBox.restrict (by intro k hk hb; simp at hk hb; simp [hk, hb, h_9, h_28, q_34, q_35, q_36, q_37, q_38, q_39, q_40, q_41, q_42, h_44, h_50, h_137, h_152, hn_43 k (by simp [hk, hb])])⟩
            · try simp at h_137
              cases hp
              try simp [h_9, h_28, q_34, q_35, q_36, q_37, q_38, q_39, q_40, q_41, q_42, h_44, h_50, h_137]
              refine goal_outR ?_
              rw [X_32_]
              exact ⟨_, rfl, by simp [restrict_env, h_9, h_28, q_34, q_35, q_36, q_37, q_38, q_39, q_40, q_41, q_42, h_44, h_50, h_137], by simp [restrict_mem, h_9, h_28, q_34, q_35, q_36, q_37, q_38, q_39, q_40, q_41, q_42, h_44, h_50, h_137], by simp [restrict_mem, h_9, h_28, q_34, q_35, q_36, q_37, q_38, q_39, q_40, q_41, q_42, h_44, h_50, h_137], NoBox.restrict (by intro k hk hb; simp at hk hb; simp [hk, hb, h_9, h_28, q_34, q_35, q_36, q_37, q_38, q_39, q_40, q_41, q_42, h_44, h_50, h_137, hn_43 k (by simp [hk, hb])])⟩
        · try simp at h_44
          cases hp
          try simp [h_9, h_28, q_34, q_35, q_36, q_37, q_38, q_39, q_40, q_41, q_42, h_44]
          refine goal_outX ?_
          rw [X_32_]
          exact ⟨_, rfl, by simp [restrict_mem, h_9, h_28, q_34, q_35, q_36, q_37, q_38, q_39, q_40, q_41, q_42, h_44], by simp [restrict_mem, h_9, h_28, q_34, q_35, q_36, q_37, q_38, q_39, q_40, q_41, q_42, h_44], NoBox.restrict (by intro k hk hb; simp at hk hb; simp [hk, hb, h_9, h_28, q_34, q_35, q_36, q_37, q_38, q_39, q_40, q_41, q_42, h_44, hn_43 k (by simp [hk, hb])])⟩
      · intro out hX
        rw [X_32_] at hX
        rcases r_153 with r_153 | r_153
        · simp only [Sum.elim_inl, Sum.elim_inr] at hX hp
          obtain ⟨σ_155, rfl, q_156, q_157, q_158, hn_159⟩ := hX
          cases hp
          simp [Goal, FnEnd, h_9, h_28, q_156, q_157, q_158]
        · simp only [Sum.elim_inl, Sum.elim_inr] at hX hp
          obtain ⟨σ_160, rfl, q_161, q_162, hn_163⟩ := hX
          cases hp
          simp [Goal, FnEnd, h_9, h_28, q_161, q_162]
    · try simp at h_28
      cases hp
      simp [Goal, FnEnd, h_9, h_28]
  · try simp at h_9
    cases hp
    simp [Goal, FnEnd, h_9]
theorem pc189 : PC Try.prog 189 C189 := pc_of (g := g189) (ctxOK_of [(81, C81), (134, C134), (190, C190), (191, C191)] rfl ⟨pc81, pc134, pc190, pc191, trivial⟩) ⟨Try.f189, Try.func189, by kernel_rfl, by kernel_rfl⟩ fun x y h => w189 h

abbrev G187 (g : Cfg) : Prop := Has Try.prog g 187 Try.f187 [37] [(4, { hd := [0, 1, 2, 3, 23, 24], bx := [], ex := [], rt := [5, 6] })] [(106, C106), (188, C188), (189, C189)] []
set_option maxHeartbeats 4000000 in
set_option maxRecDepth 100000 in
theorem wI187 {g : Cfg} (G : G187 g) (fu : Nat) : ∀ {d : Nat} {mem : Mem} (hT : Tight d mem) {K_1 : Key} {K_2 : Key} {K_3 : Key} {to_ : (List Int)} {c0 : TStructure} {c1 : TStructure} {m_0 : Md} (hm_0 : LentM m_0) {mk_1 : Md} (hk_1 : K_1.1 ≤ d) (hb_1 : mem K_1 = some [(.l mk_1 c0.nodes.length (encL c0.nodes)), (.l mk_1 c0.next.length (encL c0.next))]) {mk_2 : Md} (hk_2 : K_2.1 ≤ d) (hb_2 : mem K_2 = some [(.l mk_2 c1.nodes.length (encL c1.nodes)), (.l mk_2 c1.next.length (encL c1.next))]) (hk_3 : K_3.1 ≤ d) (hb_3 : mem K_3 = some [.fn 187 [(K_1, 0), (K_2, 0), (K_3, 0)]]) {y} (hp : fixN R_impl_FindEmbedding_1 fu (to_, c0, c1, ()) = some y), ∃ r, callo g d 187 [av m_0 to_, .one (.ptr K_1 0), .one (.ptr K_2 0), .one (.ptr K_3 0)] mem = some (r, mem) ∧ ∃ me_0 : Md, r = .tu [tupM me_0 y.1, tup y.2] := by
  have gP := G.P; have gt := G.tk; have gg := G.gh
  have i_187 := G.no
  have k_4 := G.kp (4, { hd := [0, 1, 2, 3, 23, 24], bx := [], ex := [], rt := [5, 6] }) (by simp)
  have c_106 := G.cs (106, C106) (by simp)
  have c_188 := G.cs (188, C188) (by simp)
  have c_189 := G.cs (189, C189) (by simp)
  induction fu with
  | zero => intros; exact absurd ‹fixN _ 0 _ = some _› (by simp [fixN])
  | succ fu ih =>
    intro d mem hT K_1 K_2 K_3 to_ c0 c1 m_0 hm_0 mk_1 hk_1 hb_1 mk_2 hk_2 hb_2 hk_3 hb_3 y hp
    have hT2 : memKill (fun k => decide (d < k.1)) mem = mem := hT
    have nk_1 : ∀ t, (K_1 = (d + 1, t)) = False := fun t => by simp; intro h; rw [h] at hk_1; simp at hk_1; omega
    have nk_2 : ∀ t, (K_2 = (d + 1, t)) = False := fun t => by simp; intro h; rw [h] at hk_2; simp at hk_2; omega
    have nk_3 : ∀ t, (K_3 = (d + 1, t)) = False := fun t => by simp; intro h; rw [h] at hk_3; simp at hk_3; omega
    refine start_ex (Try.f187.body.getD .skip) [.tmp 5, .tmp 6] G Try.func187 (by kernel_rfl) (by simp [Try.ntmps187]) rfl ?_
    replace hp : B_impl_FindEmbedding_1 (fun to_ c0 c1 => fixN R_impl_FindEmbedding_1 fu (to_, c0, c1, ())) to_ c0 c1 = some y := hp
    unfold B_impl_FindEmbedding_1 at hp
    simp [Try.f187, gP, gt, gg, i_187, hm_0.copy, hm_0.elem, hb_1, nk_1, hb_2, nk_2, hb_3, nk_3]
    rcases cond_cases hp with ⟨h_1, hp⟩ | ⟨h_1, hp⟩
    · try simp at h_1
      obtain ⟨y_2, h_3, hp⟩ := bind_some hp
      have c_4 := C188_eq h_3
      simp at c_4
      cases hp
      simp [Goal, FnEndE, memKill_hi, retR, rsrc, RSrc.val, nodupR, nodup, tupPart, gP, gt, gg, c_188, i_187, hm_0.copy, hm_0.elem, hb_1, nk_1, hb_2, nk_2, hb_3, nk_3, h_1, c_4, hT2]
    · try simp at h_1
      try simp [gP, gt, gg, c_106, c_188, c_189, i_187, hm_0.copy, hm_0.elem, hb_1, nk_1, hb_2, nk_2, hb_3, nk_3, h_1]
      obtain ⟨r_36, h_37, hp⟩ := bind_some hp
      obtain ⟨I_7, I_7_⟩ : ∃ I : Int → St → Prop, I = (fun (s_5 : Int) (σ : St) => σ.env 0 = .one (.l m_0 to_.length (encL to_)) ∧ σ.env 1 = .one (.ptr K_1 0) ∧ σ.env 2 = .one (.ptr K_2 0) ∧ σ.env 3 = .one (.ptr K_3 0) ∧ σ.env 23 = .one (.s (.int .i64 (c1.nodes.length : Int))) ∧ σ.env 24 = .one (.s (.int .i64 s_5)) ∧ σ.mem K_1 = some [(.l mk_1 c0.nodes.length (encL c0.nodes)), (.l mk_1 c0.next.length (encL c0.next))] ∧ σ.mem K_2 = some [(.l mk_2 c1.nodes.length (encL c1.nodes)), (.l mk_2 c1.next.length (encL c1.next))] ∧ σ.mem K_3 = some [(.fn 187 [(K_1, 0), (K_2, 0), (K_3, 0)])] ∧ Tight (d + 1) σ.mem ∧ Agree d mem σ.mem ∧ NoBoxD d [] σ.mem) := ⟨_, rfl⟩
      obtain ⟨X_8, X_8_⟩ : ∃ X : (((List Int) × Bool) ⊕ (Unit)) → Out → Prop, X = (fun (r_36 : ((List Int) × Bool) ⊕ (Unit)) (out : Out) => Sum.elim (fun r_36 => ∃ σ : St, out = .ret σ ∧ (∃ mq_38 : Md, σ.env 5 = .one (.l mq_38 r_36.1.length (encL r_36.1))) ∧ σ.env 6 = .one (.s (.bool r_36.2)) ∧ σ.mem K_1 = some [(.l mk_1 c0.nodes.length (encL c0.nodes)), (.l mk_1 c0.next.length (encL c0.next))] ∧ σ.mem K_2 = some [(.l mk_2 c1.nodes.length (encL c1.nodes)), (.l mk_2 c1.next.length (encL c1.next))] ∧ σ.mem K_3 = some [(.fn 187 [(K_1, 0), (K_2, 0), (K_3, 0)])] ∧ Tight (d + 1) σ.mem ∧ Agree d mem σ.mem ∧ NoBoxD d [] σ.mem) (fun r_36 => ∃ σ : St, out = .exit 0 σ ∧ σ.mem K_1 = some [(.l mk_1 c0.nodes.length (encL c0.nodes)), (.l mk_1 c0.next.length (encL c0.next))] ∧ σ.mem K_2 = some [(.l mk_2 c1.nodes.length (encL c1.nodes)), (.l mk_2 c1.next.length (encL c1.next))] ∧ σ.mem K_3 = some [(.fn 187 [(K_1, 0), (K_2, 0), (K_3, 0)])] ∧ Tight (d + 1) σ.mem ∧ Agree d mem σ.mem ∧ NoBoxD d [] σ.mem) r_36) := ⟨_, rfl⟩
      refine loopP ({ hd := [0, 1, 2, 3, 23, 24], bx := [], ex := [], rt := [5, 6] }) I_7 X_8 h_37 (by exact k_4) ?_ ?_ ?_
      · rw [I_7_]
        exact ⟨by simp [restrict_env, gP, gt, gg, c_106, c_188, c_189, i_187, hm_0.copy, hm_0.elem, hb_1, nk_1, hb_2, nk_2, hb_3, nk_3, h_1], by simp [restrict_env, gP, gt, gg, c_106, c_188, c_189, i_187, hm_0.copy, hm_0.elem, hb_1, nk_1, hb_2, nk_2, hb_3, nk_3, h_1], by simp [restrict_env, gP, gt, gg, c_106, c_188, c_189, i_187, hm_0.copy, hm_0.elem, hb_1, nk_1, hb_2, nk_2, hb_3, nk_3, h_1], by simp [restrict_env, gP, gt, gg, c_106, c_188, c_189, i_187, hm_0.copy, hm_0.elem, hb_1, nk_1, hb_2, nk_2, hb_3, nk_3, h_1], by simp [restrict_env, gP, gt, gg, c_106, c_188, c_189, i_187, hm_0.copy, hm_0.elem, hb_1, nk_1, hb_2, nk_2, hb_3, nk_3, h_1], by simp [restrict_env, gP, gt, gg, c_106, c_188, c_189, i_187, hm_0.copy, hm_0.elem, hb_1, nk_1, hb_2, nk_2, hb_3, nk_3, h_1], by simp [restrict_mem, gP, gt, gg, c_106, c_188, c_189, i_187, hm_0.copy, hm_0.elem, hb_1, nk_1, hb_2, nk_2, hb_3, nk_3, h_1], by simp [restrict_mem, gP, gt, gg, c_106, c_188, c_189, i_187, hm_0.copy, hm_0.elem, hb_1, nk_1, hb_2, nk_2, hb_3, nk_3, h_1], by simp [restrict_mem, gP, gt, gg, c_106, c_188, c_189, i_187, hm_0.copy, hm_0.elem, hb_1, nk_1, hb_2, nk_2, hb_3, nk_3, h_1], (by repeat (first | exact tight_mem0 _ | exact hT.up | exact hT | refine Tight.restrict ?_ | refine Tight.upd ?_ (by simp) (by simp))), (by repeat (first | exact fun k hk => rfl | refine Agree.restrict hT ?_ | refine Agree.upd ?_ (by simp))), NoBoxD.restrict (by intro k hd hk hb; simp at hk hb; simp [hk, hb, gP, gt, gg, c_106, c_188, c_189, i_187, hm_0.copy, hm_0.elem, hb_1, nk_1, hb_2, nk_2, hb_3, nk_3, h_1, hT.none hd])⟩
      · intro s_5 σ_9 a_6 hI hp
        rw [I_7_] at hI
        obtain ⟨q_10, q_11, q_12, q_13, q_14, q_15, q_16, q_17, q_18, ht_19, ha_20, hn_21⟩ := hI
        try simp [gP, gt, gg, c_106, c_188, c_189, i_187, hm_0.copy, hm_0.elem, hb_1, nk_1, hb_2, nk_2, hb_3, nk_3, h_1, q_10, q_11, q_12, q_13, q_14, q_15, q_16, q_17, q_18]
        rcases cond_cases hp with ⟨h_22, hp⟩ | ⟨h_22, hp⟩
        · try simp at h_22
          obtain ⟨y_23, h_24, hp⟩ := bind_some hp
          have c_25 := C106_eq h_24
          simp at c_25
          obtain ⟨_, h_26, hp⟩ := bind_some hp
          have b_27 := room_ok h_26
          try simp at b_27
          obtain ⟨y_28, h_29, hp⟩ := bind_some hp
          have c_30 := C189_eq h_29
          simp at c_30
          try simp [gP, gt, gg, c_106, c_188, c_189, i_187, hm_0.copy, hm_0.elem, hb_1, nk_1, hb_2, nk_2, hb_3, nk_3, h_1, q_10, q_11, q_12, q_13, q_14, q_15, q_16, q_17, q_18, h_22, c_25, b_27, c_30]
          rcases cond_cases hp with ⟨h_31, hp⟩ | ⟨h_31, hp⟩
          · try simp at h_31
            obtain ⟨y_32, h_33, hp⟩ := bind_some hp
            try simp [gP, gt, gg, c_106, c_188, c_189, i_187, hm_0.copy, hm_0.elem, hb_1, nk_1, hb_2, nk_2, hb_3, nk_3, h_1, q_10, q_11, q_12, q_13, q_14, q_15, q_16, q_17, q_18, h_22, h_31]
            refine goal_callE [av .bor (y_23 ++ [s_5]), .one (.ptr K_1 0), .one (.ptr K_2 0), .one (.ptr K_3 0)] (fun r => ∃ me_34 : Md, r = .tu [tupM me_34 y_32.1, tup y_32.2]) (by simp [gP, gt, gg, c_106, c_188, c_189, i_187, hm_0.copy, hm_0.elem, hb_1, nk_1, hb_2, nk_2, hb_3, nk_3, h_1, q_10, q_11, q_12, q_13, q_14, q_15, q_16, q_17, q_18, h_22, h_31]) (ih (mk_1 := mk_1) (mk_2 := mk_2) (by repeat (first | exact ht_19 | exact tight_mem0 _ | exact hT.up | exact hT | (simp only [q_10, q_11, q_12, q_13, q_14, q_15, q_16, q_17, q_18]; done) | refine Tight.upd ?_ (by simp) (by simp))) (.inr rfl) (Nat.le_succ_of_le hk_1) (by simp [gP, gt, gg, c_106, c_188, c_189, i_187, hm_0.copy, hm_0.elem, hb_1, nk_1, hb_2, nk_2, hb_3, nk_3, h_1, q_10, q_11, q_12, q_13, q_14, q_15, q_16, q_17, q_18, h_22, h_31]) (Nat.le_succ_of_le hk_2) (by simp [gP, gt, gg, c_106, c_188, c_189, i_187, hm_0.copy, hm_0.elem, hb_1, nk_1, hb_2, nk_2, hb_3, nk_3, h_1, q_10, q_11, q_12, q_13, q_14, q_15, q_16, q_17, q_18, h_22, h_31]) (Nat.le_succ_of_le hk_3) (by simp [gP, gt, gg, c_106, c_188, c_189, i_187, hm_0.copy, hm_0.elem, hb_1, nk_1, hb_2, nk_2, hb_3, nk_3, h_1, q_10, q_11, q_12, q_13, q_14, q_15, q_16, q_17, q_18, h_22, h_31]) h_33) ?_
            rintro _ ⟨me_34, rfl⟩
            try simp [gP, gt, gg, c_106, c_188, c_189, i_187, hm_0.copy, hm_0.elem, hb_1, nk_1, hb_2, nk_2, hb_3, nk_3, h_1, q_10, q_11, q_12, q_13, q_14, q_15, q_16, q_17, q_18, h_22, h_31]
            rcases cond_cases hp with ⟨h_35, hp⟩ | ⟨h_35, hp⟩
            · try simp at h_35
              cases hp
              try simp [gP, gt, gg, c_106, c_188, c_189, i_187, hm_0.copy, hm_0.elem, hb_1, nk_1, hb_2, nk_2, hb_3, nk_3, h_1, q_10, q_11, q_12, q_13, q_14, q_15, q_16, q_17, q_18, h_22, h_31, h_35]
              refine goal_outR ?_
              rw [X_8_]
              exact ⟨_, rfl, ⟨me_34.copy, by simp [restrict_env, gP, gt, gg, c_106, c_188, c_189, i_187, hm_0.copy, hm_0.elem, hb_1, nk_1, hb_2, nk_2, hb_3, nk_3, h_1, q_10, q_11, q_12, q_13, q_14, q_15, q_16, q_17, q_18, h_22, h_31, h_35]⟩, by simp [restrict_env, gP, gt, gg, c_106, c_188, c_189, i_187, hm_0.copy, hm_0.elem, hb_1, nk_1, hb_2, nk_2, hb_3, nk_3, h_1, q_10, q_11, q_12, q_13, q_14, q_15, q_16, q_17, q_18, h_22, h_31, h_35], by simp [restrict_mem, gP, gt, gg, c_106, c_188, c_189, i_187, hm_0.copy, hm_0.elem, hb_1, nk_1, hb_2, nk_2, hb_3, nk_3, h_1, q_10, q_11, q_12, q_13, q_14, q_15, q_16, q_17, q_18, h_22, h_31, h_35], by simp [restrict_mem, gP, gt, gg, c_106, c_188, c_189, i_187, hm_0.copy, hm_0.elem, hb_1, nk_1, hb_2, nk_2, hb_3, nk_3, h_1, q_10, q_11, q_12, q_13, q_14, q_15, q_16, q_17, q_18, h_22, h_31, h_35], by simp [restrict_mem, gP, gt, gg, c_106, c_188, c_189, i_187, hm_0.copy, hm_0.elem, hb_1, nk_1, hb_2, nk_2, hb_3, nk_3, h_1, q_10, q_11, q_12, q_13, q_14, q_15, q_16, q_17, q_18, h_22, h_31, h_35], (by repeat (first | exact ht_19 | exact tight_mem0 _ | exact hT.up | exact hT | refine Tight.restrict ?_ | refine Tight.upd ?_ (by simp) (by simp))), (by repeat (first | exact ha_20 | exact fun k hk => rfl | refine Agree.restrict hT ?_ | refine Agree.upd ?_ (by simp))), NoBoxD.restrict (by intro k hd hk hb; simp at hk hb; simp [hk, hb, gP, gt, gg, c_106, c_188, c_189, i_187, hm_0.copy, hm_0.elem, hb_1, nk_1, hb_2, nk_2, hb_3, nk_3, h_1, q_10, q_11, q_12, q_13, q_14, q_15, q_16, q_17, q_18, h_22, h_31, h_35, hn_21 k hd (by simp [hk, hb])])⟩
            · try simp at h_35
              cases hp
              try simp [gP, gt, gg, c_106, c_188, c_189, i_187, hm_0.copy, hm_0.elem, hb_1, nk_1, hb_2, nk_2, hb_3, nk_3, h_1, q_10, q_11, q_12, q_13, q_14, q_15, q_16, q_17, q_18, h_22, h_31, h_35]
              refine goal_next ?_
              rw [I_7_]
              exact ⟨by simp [restrict_env, gP, gt, gg, c_106, c_188, c_189, i_187, hm_0.copy, hm_0.elem, hb_1, nk_1, hb_2, nk_2, hb_3, nk_3, h_1, q_10, q_11, q_12, q_13, q_14, q_15, q_16, q_17, q_18, h_22, h_31, h_35], by simp [restrict_env, gP, gt, gg, c_106, c_188, c_189, i_187, hm_0.copy, hm_0.elem, hb_1, nk_1, hb_2, nk_2, hb_3, nk_3, h_1, q_10, q_11, q_12, q_13, q_14, q_15, q_16, q_17, q_18, h_22, h_31, h_35], by simp [restrict_env, gP, gt, gg, c_106, c_188, c_189, i_187, hm_0.copy, hm_0.elem, hb_1, nk_1, hb_2, nk_2, hb_3, nk_3, h_1, q_10, q_11, q_12, q_13, q_14, q_15, q_16, q_17, q_18, h_22, h_31, h_35], by simp [restrict_env, gP, gt, gg, c_106, c_188, c_189, i_187, hm_0.copy, hm_0.elem, hb_1, nk_1, hb_2, nk_2, hb_3, nk_3, h_1, q_10, q_11, q_12, q_13, q_14, q_15, q_16, q_17, q_18, h_22, h_31, h_35], by simp [restrict_env, gP, gt, gg, c_106, c_188, c_189, i_187, hm_0.copy, hm_0.elem, hb_1, nk_1, hb_2, nk_2, hb_3, nk_3, h_1, q_10, q_11, q_12, q_13, q_14, q_15, q_16, q_17, q_18, h_22, h_31, h_35], by simp [restrict_env, gP, gt, gg, c_106, c_188, c_189, i_187, hm_0.copy, hm_0.elem, hb_1, nk_1, hb_2, nk_2, hb_3, nk_3, h_1, q_10, q_11, q_12, q_13, q_14, q_15, q_16, q_17, q_18, h_22, h_31, h_35], by simp [restrict_mem, gP, gt, gg, c_106, c_188, c_189, i_187, hm_0.copy, hm_0.elem, hb_1, nk_1, hb_2, nk_2, hb_3, nk_3, h_1, q_10, q_11, q_12, q_13, q_14, q_15, q_16, q_17, q_18, h_22, h_31, h_35], by simp [restrict_mem, gP, gt, gg, c_106, c_188, c_189, i_187, hm_0.copy, hm_0.elem, hb_1, nk_1, hb_2, nk_2, hb_3, nk_3, h_1, q_10, q_11, q_12, q_13, q_14, q_15, q_16, q_17, q_18, h_22, h_31, h_35], by simp [restrict_mem, gP, gt, gg, c_106, c_188, c_189, i_187, hm_0.copy, hm_0.elem, hb_1, nk_1, hb_2, nk_2, hb_3, nk_3, h_1, q_10, q_11, q_12, q_13, q_14, q_15, q_16, q_17, q_18, h_22, h_31, h_35], (by repeat (first | exact ht_19 | exact tight_mem0 _ | exact hT.up | exact hT | refine Tight.restrict ?_ | refine Tight.upd ?_ (by simp) (by simp))), (by repeat (first | exact ha_20 | exact fun k hk => rfl | refine Agree.restrict hT ?_ | refine Agree.upd ?_ (by simp))), NoBoxD.restrict (by intro k hd hk hb; simp at hk hb; simp [hk, hb, gP, gt, gg, c_106, c_188, c_189, i_187, hm_0.copy, hm_0.elem, hb_1, nk_1, hb_2, nk_2, hb_3, nk_3, h_1, q_10, q_11, q_12, q_13, q_14, q_15, q_16, q_17, q_18, h_22, h_31, h_35, hn_21 k hd (by simp [hk, hb])])⟩
          · try simp at h_31
            cases hp
            try simp [gP, gt, gg, c_106, c_188, c_189, i_187, hm_0.copy, hm_0.elem, hb_1, nk_1, hb_2, nk_2, hb_3, nk_3, h_1, q_10, q_11, q_12, q_13, q_14, q_15, q_16, q_17, q_18, h_22, h_31]
            refine goal_next ?_
            rw [I_7_]
            exact ⟨by simp [restrict_env, gP, gt, gg, c_106, c_188, c_189, i_187, hm_0.copy, hm_0.elem, hb_1, nk_1, hb_2, nk_2, hb_3, nk_3, h_1, q_10, q_11, q_12, q_13, q_14, q_15, q_16, q_17, q_18, h_22, h_31], by simp [restrict_env, gP, gt, gg, c_106, c_188, c_189, i_187, hm_0.copy, hm_0.elem, hb_1, nk_1, hb_2, nk_2, hb_3, nk_3, h_1, q_10, q_11, q_12, q_13, q_14, q_15, q_16, q_17, q_18, h_22, h_31], by simp [restrict_env, gP, gt, gg, c_106, c_188, c_189, i_187, hm_0.copy, hm_0.elem, hb_1, nk_1, hb_2, nk_2, hb_3, nk_3, h_1, q_10, q_11, q_12, q_13, q_14, q_15, q_16, q_17, q_18, h_22, h_31], by simp [restrict_env, gP, gt, gg, c_106, c_188, c_189, i_187, hm_0.copy, hm_0.elem, hb_1, nk_1, hb_2, nk_2, hb_3, nk_3, h_1, q_10, q_11, q_12, q_13, q_14, q_15, q_16, q_17, q_18, h_22, h_31], by simp [restrict_env, gP, gt, gg, c_106, c_188, c_189, i_187, hm_0.copy, hm_0.elem, hb_1, nk_1, hb_2, nk_2, hb_3, nk_3, h_1, q_10, q_11, q_12, q_13, q_14, q_15, q_16, q_17, q_18, h_22, h_31], by simp [restrict_env, gP, gt, gg, c_106, c_188, c_189, i_187, hm_0.copy, hm_0.elem, hb_1, nk_1, hb_2, nk_2, hb_3, nk_3, h_1, q_10, q_11, q_12, q_13, q_14, q_15, q_16, q_17, q_18, h_22, h_31], by simp [restrict_mem, gP, gt, gg, c_106, c_188, c_189, i_187, hm_0.copy, hm_0.elem, hb_1, nk_1, hb_2, nk_2, hb_3, nk_3, h_1, q_10, q_11, q_12, q_13, q_14, q_15, q_16, q_17, q_18, h_22, h_31], by simp [restrict_mem, gP, gt, gg, c_106, c_188, c_189, i_187, hm_0.copy, hm_0.elem, hb_1, nk_1, hb_2, nk_2, hb_3, nk_3, h_1, q_10, q_11, q_12, q_13, q_14, q_15, q_16, q_17, q_18, h_22, h_31], by simp [restrict_mem, gP, gt, gg, c_106, c_188, c_189, i_187, hm_0.copy, hm_0.elem, hb_1, nk_1, hb_2, nk_2, hb_3, nk_3, h_1, q_10, q_11, q_12, q_13, q_14, q_15, q_16, q_17, q_18, h_22, h_31], (by repeat (first | exact ht_19 | exact tight_mem0 _ | exact hT.up | exact hT | refine Tight.restrict ?_ | refine Tight.upd ?_ (by simp) (by simp))), (by repeat (first | exact ha_20 | exact fun k hk => rfl | refine Agree.restrict hT ?_ | refine Agree.upd ?_ (by simp))), NoBoxD.restrict (by intro k hd hk hb; simp at hk hb; simp [hk, hb, gP, gt, gg, c_106, c_188, c_189, i_187, hm_0.copy, hm_0.elem, hb_1, nk_1, hb_2, nk_2, hb_3, nk_3, h_1, q_10, q_11, q_12, q_13, q_14, q_15, q_16, q_17, q_18, h_22, h_31, hn_21 k hd (by simp [hk, hb])])⟩
        · try simp at h_22
          cases hp
          try simp [gP, gt, gg, c_106, c_188, c_189, i_187, hm_0.copy, hm_0.elem, hb_1, nk_1, hb_2, nk_2, hb_3, nk_3, h_1, q_10, q_11, q_12, q_13, q_14, q_15, q_16, q_17, q_18, h_22]
          refine goal_outX ?_
          rw [X_8_]
          exact ⟨_, rfl, by simp [restrict_mem, gP, gt, gg, c_106, c_188, c_189, i_187, hm_0.copy, hm_0.elem, hb_1, nk_1, hb_2, nk_2, hb_3, nk_3, h_1, q_10, q_11, q_12, q_13, q_14, q_15, q_16, q_17, q_18, h_22], by simp [restrict_mem, gP, gt, gg, c_106, c_188, c_189, i_187, hm_0.copy, hm_0.elem, hb_1, nk_1, hb_2, nk_2, hb_3, nk_3, h_1, q_10, q_11, q_12, q_13, q_14, q_15, q_16, q_17, q_18, h_22], by simp [restrict_mem, gP, gt, gg, c_106, c_188, c_189, i_187, hm_0.copy, hm_0.elem, hb_1, nk_1, hb_2, nk_2, hb_3, nk_3, h_1, q_10, q_11, q_12, q_13, q_14, q_15, q_16, q_17, q_18, h_22], (by repeat (first | exact ht_19 | exact tight_mem0 _ | exact hT.up | exact hT | refine Tight.restrict ?_ | refine Tight.upd ?_ (by simp) (by simp))), (by repeat (first | exact ha_20 | exact fun k hk => rfl | refine Agree.restrict hT ?_ | refine Agree.upd ?_ (by simp))), NoBoxD.restrict (by intro k hd hk hb; simp at hk hb; simp [hk, hb, gP, gt, gg, c_106, c_188, c_189, i_187, hm_0.copy, hm_0.elem, hb_1, nk_1, hb_2, nk_2, hb_3, nk_3, h_1, q_10, q_11, q_12, q_13, q_14, q_15, q_16, q_17, q_18, h_22, hn_21 k hd (by simp [hk, hb])])⟩
      · intro out hX
        rw [X_8_] at hX
        rcases r_36 with r_36 | r_36
        · simp only [Sum.elim_inl, Sum.elim_inr] at hX hp
          obtain ⟨σ_39, rfl, ⟨mq_38, q_40⟩, q_41, q_42, q_43, q_44, ht_45, ha_46, hn_47⟩ := hX
          cases hp
          simp [Goal, FnEndE, memKill_hi, retR, rsrc, RSrc.val, nodupR, nodup, tupPart, gP, gt, gg, c_106, c_188, c_189, i_187, hm_0.copy, hm_0.elem, hb_1, nk_1, hb_2, nk_2, hb_3, nk_3, h_1, q_40, q_41, q_42, q_43, q_44, kill_back ha_46 hT]
        · simp only [Sum.elim_inl, Sum.elim_inr] at hX hp
          obtain ⟨σ_48, rfl, q_49, q_50, q_51, ht_52, ha_53, hn_54⟩ := hX
          cases hp
          simp [Goal, FnEndE, memKill_hi, retR, rsrc, RSrc.val, nodupR, nodup, tupPart, gP, gt, gg, c_106, c_188, c_189, i_187, hm_0.copy, hm_0.elem, hb_1, nk_1, hb_2, nk_2, hb_3, nk_3, h_1, q_49, q_50, q_51, kill_back ha_53 hT]
end Go.Proofs
