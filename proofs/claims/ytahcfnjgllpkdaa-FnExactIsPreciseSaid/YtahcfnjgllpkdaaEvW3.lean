import Derived.Test.YtahcfnjgllpkdaaEvW2
set_option linter.unusedSimpArgs false
set_option linter.unusedVariables false
set_option linter.unnecessarySimpa false
namespace Go.Proofs
open Go.Ev
noncomputable def C88 : List AV → Option AV := specP (X := Int × (List TStructure) × Int × Unit) fun x => spec_SmallHeapsOf x.1 x.2.1 x.2.2.1
theorem C88_eq {vars set cells} {y} (h : spec_SmallHeapsOf vars set cells = some y) : C88 [av .shr vars, av .shr set, av .shr cells] = some (Res.res y) := specP_eq (X := Int × (List TStructure) × Int × Unit) (F := fun x => spec_SmallHeapsOf x.1 x.2.1 x.2.2.1) (x := (vars, set, cells, ())) h
noncomputable def g88 : Cfg := { P := Try.prog, take := [(88, 26), (88, 30), (88, 33)], keep := [((88, 4), { hd := [1, 7, 8, 9], bx := [], ex := [7], rt := [6] })], gho := [((88, 2000002), [.thaw (.sl 8 0) 8 2]), ((88, 5), [.die (.ix 8 9 2 0) 2])], ctx := [(9, C9), (138, C138)] }
@[simp] theorem g88_P : g88.P = Try.prog := rfl
@[simp] theorem g88_t : g88.take = [(88, 26), (88, 30), (88, 33)] := rfl
@[simp] theorem g88_g : g88.gho = [((88, 2000002), [.thaw (.sl 8 0) 8 2]), ((88, 5), [.die (.ix 8 9 2 0) 2])] := rfl
@[simp] theorem g88_9 : lookN 9 g88.ctx = some C9 := rfl
@[simp] theorem g88_138 : lookN 138 g88.ctx = some C138 := rfl
set_option maxHeartbeats 4000000 in
set_option maxRecDepth 100000 in
theorem w88 {vars set cells} {y} (hp : spec_SmallHeapsOf vars set cells = some y) : ∃ m, callo g88 0 88 [av .shr vars, av .shr set, av .shr cells] mem0 = some (Res.res y, m) := by
  refine start_fn (Try.f88.body.getD .skip) [.tmp 6] rfl rfl Try.func88 (by kernel_rfl) (by kernel_rfl) (by simp [Try.ntmps88]) rfl ?_
  unfold spec_SmallHeapsOf at hp
  obtain ⟨y_1, h_2, hp⟩ := bind_some hp
  have c_3 := C9_eq h_2
  simp at c_3
  simp [Try.f88, c_3]
  try simp
  obtain ⟨r_48, h_49, hp⟩ := bind_some hp
  obtain ⟨I_6, I_6_⟩ : ∃ I : (List THeap) × Int × Int → St → Prop, I = (fun (s_4 : (List THeap) × Int × Int) (σ : St) => σ.env 1 = .one (.l .shr set.length (encL set)) ∧ σ.env 7 = .one (.l .own s_4.1.length (encL s_4.1)) ∧ σ.env 8 = .one (.bs (1, 8) y_1.length 2) ∧ σ.env 9 = .one (.s (.int .i64 s_4.2.1)) ∧ σ.mem (1, 8) = some (deadC y_1 s_4.2.2) ∧ NoBox [(1, 8)] σ.mem) := ⟨_, rfl⟩
  obtain ⟨X_7, X_7_⟩ : ∃ X : ((List THeap) × Int) → Out → Prop, X = (fun (r_48 : (List THeap) × Int) (out : Out) => ∃ σ : St, out = .exit 0 σ ∧ σ.env 7 = .one (.l .own r_48.1.length (encL r_48.1)) ∧ σ.mem (1, 8) = some (deadC y_1 r_48.2) ∧ NoBox [(1, 8)] σ.mem) := ⟨_, rfl⟩
  refine loopP ({ hd := [1, 7, 8, 9], bx := [], ex := [7], rt := [6] }) I_6 X_7 h_49 (by exact rfl) ?_ ?_ ?_
  · rw [I_6_]
    exact ⟨by simp [restrict_env], by simp [restrict_env], by simp [restrict_env], by simp [restrict_env], by simp [restrict_mem], NoBox.restrict (by intro k hk hb; simp at hk hb; simp [hk, hb])⟩
  · intro s_4 σ_8 a_5 hI hp
    rw [I_6_] at hI
    obtain ⟨q_9, q_10, q_11, q_12, q_13, hn_14⟩ := hI
    try simp [q_9, q_10, q_11, q_12, q_13]
    rcases cond_cases hp with ⟨h_15, hp⟩ | ⟨h_15, hp⟩
    · try simp at h_15
      obtain ⟨e_16, h_17, hp⟩ := bind_some hp
      have b_18 := at_lo h_17
      have b_19 := at_hi h_17
      try simp at b_18
      try simp at b_19
      obtain ⟨_, h_20, hp⟩ := bind_some hp
      have h_21 := takeI_eq h_20
      have c_22 := seg_dead h_17 h_21 0 2 rfl rfl (cs := [(.l .own e_16.vars.length (encL e_16.vars)), (.l .own e_16.next.length (encL e_16.next))]) rfl
      try simp at c_22
      obtain ⟨y_24, h_25, hp⟩ := bind_some hp
      have c_26 := C138_eq h_25
      simp at c_26
      try simp [q_9, q_10, q_11, q_12, q_13, h_15, b_18, b_19, c_22, c_26]
      rcases cond_cases hp with ⟨h_27, hp⟩ | ⟨h_27, hp⟩
      · try simp at h_27
        obtain ⟨e_28, h_29, hp⟩ := bind_some hp
        cases Option.some.inj (h_17.symm.trans h_29)
        have b_30 := at_lo h_17
        have b_31 := at_hi h_17
        try simp at b_30
        try simp at b_31
        obtain ⟨_, h_32, hp⟩ := bind_some hp
        have h_33 := takeI_eq h_32
        have c_34 := seg_dead h_17 h_33 0 2 rfl rfl (cs := [(.l .own e_16.vars.length (encL e_16.vars)), (.l .own e_16.next.length (encL e_16.next))]) rfl
        try simp at c_34
        have c_35 := splice_dead h_17 h_33 0 rfl (cs := [C.dead, C.dead]) rfl
        try simp at c_35
        obtain ⟨_, h_36, hp⟩ := bind_some hp
        have b_37 := room_ok h_36
        try simp at b_37
        try simp [q_9, q_10, q_11, q_12, q_13, h_15, h_27, b_30, b_31, c_34, c_35, b_37]
        have b_40 := at_lo h_17
        have b_41 := at_hi h_17
        try simp at b_40
        try simp at b_41
        have c_38 := splice_dead2 h_17 h_33 0 rfl (cs := [C.dead, C.dead]) rfl
        try simp at c_38
        have l_39 := dead_room2 h_17 h_33
        try simp at l_39
        cases hp
        try simp [q_9, q_10, q_11, q_12, q_13, h_15, h_27, c_38, l_39, b_40, b_41]
        refine goal_next ?_
        rw [I_6_]
        exact ⟨by simp [restrict_env, q_9, q_10, q_11, q_12, q_13, h_15, h_27, c_38, l_39, b_40, b_41], by simp [restrict_env, q_9, q_10, q_11, q_12, q_13, h_15, h_27, c_38, l_39, b_40, b_41], by simp [restrict_env, q_9, q_10, q_11, q_12, q_13, h_15, h_27, c_38, l_39, b_40, b_41], by simp [restrict_env, q_9, q_10, q_11, q_12, q_13, h_15, h_27, c_38, l_39, b_40, b_41], by simp [restrict_mem, q_9, q_10, q_11, q_12, q_13, h_15, h_27, c_38, l_39, b_40, b_41], NoBox.restrict (by intro k hk hb; simp at hk hb; simp [hk, hb, q_9, q_10, q_11, q_12, q_13, h_15, h_27, c_38, l_39, b_40, b_41, hn_14 k (by simp [hk, hb])])⟩
      · try simp at h_27
        try simp [q_9, q_10, q_11, q_12, q_13, h_15, h_27]
        obtain ⟨_, h_46, hp⟩ := bind_some hp
        have h_47 := takeI_eq h_46
        have b_44 := at_lo h_17
        have b_45 := at_hi h_17
        try simp at b_44
        try simp at b_45
        have c_42 := splice_dead h_17 h_47 0 rfl (cs := [C.dead, C.dead]) rfl
        try simp at c_42
        have l_43 := dead_room h_17 h_47
        try simp at l_43
        cases hp
        try simp [q_9, q_10, q_11, q_12, q_13, h_15, h_27, c_42, l_43, b_44, b_45]
        refine goal_next ?_
        rw [I_6_]
        exact ⟨by simp [restrict_env, q_9, q_10, q_11, q_12, q_13, h_15, h_27, c_42, l_43, b_44, b_45], by simp [restrict_env, q_9, q_10, q_11, q_12, q_13, h_15, h_27, c_42, l_43, b_44, b_45], by simp [restrict_env, q_9, q_10, q_11, q_12, q_13, h_15, h_27, c_42, l_43, b_44, b_45], by simp [restrict_env, q_9, q_10, q_11, q_12, q_13, h_15, h_27, c_42, l_43, b_44, b_45], by simp [restrict_mem, q_9, q_10, q_11, q_12, q_13, h_15, h_27, c_42, l_43, b_44, b_45], NoBox.restrict (by intro k hk hb; simp at hk hb; simp [hk, hb, q_9, q_10, q_11, q_12, q_13, h_15, h_27, c_42, l_43, b_44, b_45, hn_14 k (by simp [hk, hb])])⟩
    · try simp at h_15
      cases hp
      try simp [q_9, q_10, q_11, q_12, q_13, h_15]
      refine goal_outX ?_
      rw [X_7_]
      exact ⟨_, rfl, by simp [restrict_env, q_9, q_10, q_11, q_12, q_13, h_15], by simp [restrict_mem, q_9, q_10, q_11, q_12, q_13, h_15], NoBox.restrict (by intro k hk hb; simp at hk hb; simp [hk, hb, q_9, q_10, q_11, q_12, q_13, h_15, hn_14 k (by simp [hk, hb])])⟩
  · intro out hX
    rw [X_7_] at hX
    obtain ⟨σ_50, rfl, q_51, q_52, hn_53⟩ := hX
    cases hp
    simp [Goal, FnEnd, q_51, q_52]
theorem pc88 : PC Try.prog 88 C88 := pc_of (g := g88) (ctxOK_of [(9, C9), (138, C138)] rfl ⟨pc9, pc138, trivial⟩) ⟨Try.f88, Try.func88, by kernel_rfl, by kernel_rfl⟩ fun x y h => w88 h

noncomputable def C31 : List AV → Option AV := specP (X := Int × (List TStructure) × Int × Unit) fun x => spec_CountDescribed x.1 x.2.1 x.2.2.1
theorem C31_eq {vars set cells} {y} (h : spec_CountDescribed vars set cells = some y) : C31 [av .shr vars, av .shr set, av .shr cells] = some (Res.res y) := specP_eq (X := Int × (List TStructure) × Int × Unit) (F := fun x => spec_CountDescribed x.1 x.2.1 x.2.2.1) (x := (vars, set, cells, ())) h
noncomputable def g31 : Cfg := { P := Try.prog, take := [], keep := [], gho := [], ctx := [(88, C88)] }
@[simp] theorem g31_P : g31.P = Try.prog := rfl
@[simp] theorem g31_t : g31.take = [] := rfl
@[simp] theorem g31_g : g31.gho = [] := rfl
@[simp] theorem g31_88 : lookN 88 g31.ctx = some C88 := rfl
set_option maxHeartbeats 4000000 in
set_option maxRecDepth 100000 in
theorem w31 {vars set cells} {y} (hp : spec_CountDescribed vars set cells = some y) : ∃ m, callo g31 0 31 [av .shr vars, av .shr set, av .shr cells] mem0 = some (Res.res y, m) := by
  refine start_fn (Try.f31.body.getD .skip) [.tmp 6] rfl rfl Try.func31 (by kernel_rfl) (by kernel_rfl) (by simp [Try.ntmps31]) rfl ?_
  unfold spec_CountDescribed at hp
  obtain ⟨y_1, h_2, hp⟩ := bind_some hp
  have c_3 := C88_eq h_2
  simp at c_3
  cases hp
  simp [Try.f31, Goal, FnEnd, c_3]
theorem pc31 : PC Try.prog 31 C31 := pc_of (g := g31) (ctxOK_of [(88, C88)] rfl ⟨pc88, trivial⟩) ⟨Try.f31, Try.func31, by kernel_rfl, by kernel_rfl⟩ fun x y h => w31 h

noncomputable def C49 : List AV → Option AV := specP (X := Int × Int × Int × Unit) fun x => impl_within x.1 x.2.1 x.2.2.1
theorem C49_eq {n_ low high} {y} (h : impl_within n_ low high = some y) : C49 [av .shr n_, av .shr low, av .shr high] = some (Res.res y) := specP_eq (X := Int × Int × Int × Unit) (F := fun x => impl_within x.1 x.2.1 x.2.2.1) (x := (n_, low, high, ())) h
noncomputable def g49 : Cfg := { P := Try.prog, take := [], keep := [], gho := [], ctx := [] }
@[simp] theorem g49_P : g49.P = Try.prog := rfl
@[simp] theorem g49_t : g49.take = [] := rfl
@[simp] theorem g49_g : g49.gho = [] := rfl
set_option maxHeartbeats 4000000 in
set_option maxRecDepth 100000 in
theorem w49 {n_ low high} {y} (hp : impl_within n_ low high = some y) : ∃ m, callo g49 0 49 [av .shr n_, av .shr low, av .shr high] mem0 = some (Res.res y, m) := by
  refine start_fn (Try.f49.body.getD .skip) [.tmp 6] rfl rfl Try.func49 (by kernel_rfl) (by kernel_rfl) (by simp [Try.ntmps49]) rfl ?_
  unfold impl_within at hp
  simp [Try.f49]
  rcases cond_cases hp with ⟨h_1, hp⟩ | ⟨h_1, hp⟩
  · try simp at h_1
    cases hp
    simp [Goal, FnEnd, h_1]
  · try simp at h_1
    cases hp
    simp [Goal, FnEnd, h_1]
theorem pc49 : PC Try.prog 49 C49 := pc_of (g := g49) (fun f F h => by cases h) ⟨Try.f49, Try.func49, by kernel_rfl, by kernel_rfl⟩ fun x y h => w49 h

noncomputable def C154 : List AV → Option AV := specP (X := THeap × Int × Unit) fun x => impl_Heap_isCell x.1 x.2.1
theorem C154_eq {h_ n_} {y} (h : impl_Heap_isCell h_ n_ = some y) : C154 [av .shr h_, av .shr n_] = some (Res.res y) := specP_eq (X := THeap × Int × Unit) (F := fun x => impl_Heap_isCell x.1 x.2.1) (x := (h_, n_, ())) h
noncomputable def g154 : Cfg := { P := Try.prog, take := [], keep := [], gho := [], ctx := [(49, C49)] }
@[simp] theorem g154_P : g154.P = Try.prog := rfl
@[simp] theorem g154_t : g154.take = [] := rfl
@[simp] theorem g154_g : g154.gho = [] := rfl
@[simp] theorem g154_49 : lookN 49 g154.ctx = some C49 := rfl
set_option maxHeartbeats 4000000 in
set_option maxRecDepth 100000 in
theorem w154 {h_ n_} {y} (hp : impl_Heap_isCell h_ n_ = some y) : ∃ m, callo g154 0 154 [av .shr h_, av .shr n_] mem0 = some (Res.res y, m) := by
  refine start_fn (Try.f154.body.getD .skip) [.tmp 4] rfl rfl Try.func154 (by kernel_rfl) (by kernel_rfl) (by simp [Try.ntmps154]) rfl ?_
  unfold impl_Heap_isCell at hp
  obtain ⟨y_1, h_2, hp⟩ := bind_some hp
  have c_3 := C49_eq h_2
  simp at c_3
  cases hp
  simp [Try.f154, Goal, FnEnd, c_3]
theorem pc154 : PC Try.prog 154 C154 := pc_of (g := g154) (ctxOK_of [(49, C49)] rfl ⟨pc49, trivial⟩) ⟨Try.f154, Try.func154, by kernel_rfl, by kernel_rfl⟩ fun x y h => w154 h

abbrev G169 (g : Cfg) : Prop := Has Try.prog g 169 Try.f169 [] [(2, { hd := [0, 1, 7, 8], bx := [], ex := [], rt := [4] })] [] []
set_option maxHeartbeats 4000000 in
set_option maxRecDepth 100000 in
theorem wI169 {g : Cfg} (G : G169 g) {d : Nat} {mem : Mem} (hT : Tight d mem)  {s : (List Int)} {f_ : (Int → Option (Bool))} {m_0 : Md} (hm_0 : LentM m_0) {fk_f_ : Nat} {caps_f_ : List (Key × Nat)} (hl_f_ : ∀ c ∈ caps_f_, c.1.1 ≤ d) (hc_f_ : Clo g d mem fk_f_ caps_f_ fun x : Int × Unit => f_ x.1) {y} (hp : slices_IndexFunc_int s f_ = some y) : callo g d 169 [av m_0 s, .one (.fn fk_f_ caps_f_)] mem = some (Res.res y, mem) := by
  have gP := G.P; have gt := G.tk; have gg := G.gh
  have k_2 := G.kp (2, { hd := [0, 1, 7, 8], bx := [], ex := [], rt := [4] }) (by simp)
  have hT2 : memKill (fun k => decide (d < k.1)) mem = mem := hT
  refine start_in (Try.f169.body.getD .skip) [.tmp 4] G Try.func169 (by kernel_rfl) (by simp [Try.ntmps169]) rfl ?_
  unfold slices_IndexFunc_int at hp
  simp [Try.f169, gP, gt, gg, hm_0.copy, hm_0.elem]
  obtain ⟨r_20, h_21, hp⟩ := bind_some hp
  obtain ⟨I_3, I_3_⟩ : ∃ I : Int → St → Prop, I = (fun (s_1 : Int) (σ : St) => σ.env 0 = .one (.l m_0 s.length (encL s)) ∧ σ.env 1 = .one (.fn fk_f_ caps_f_) ∧ σ.env 7 = .one (.s (.int .i64 (s.length : Int))) ∧ σ.env 8 = .one (.s (.int .i64 s_1)) ∧ σ.mem = mem) := ⟨_, rfl⟩
  obtain ⟨X_4, X_4_⟩ : ∃ X : ((Int) ⊕ (Unit)) → Out → Prop, X = (fun (r_20 : (Int) ⊕ (Unit)) (out : Out) => Sum.elim (fun r_20 => ∃ σ : St, out = .ret σ ∧ σ.env 4 = .one (.s (.int .i64 r_20)) ∧ σ.mem = mem) (fun r_20 => ∃ σ : St, out = .exit 0 σ ∧ σ.mem = mem) r_20) := ⟨_, rfl⟩
  refine loopP ({ hd := [0, 1, 7, 8], bx := [], ex := [], rt := [4] }) I_3 X_4 h_21 (by exact k_2) ?_ ?_ ?_
  · rw [I_3_]
    exact ⟨by simp [restrict_env, gP, gt, gg, hm_0.copy, hm_0.elem], by simp [restrict_env, gP, gt, gg, hm_0.copy, hm_0.elem] <;> first | (intro x x1 x2 hx; have h0 := hl_f_ _ hx; simp at h0; omega) | (intro x hx; have h0 := hl_f_ _ hx; simp at h0; omega), by simp [restrict_env, gP, gt, gg, hm_0.copy, hm_0.elem], by simp [restrict_env, gP, gt, gg, hm_0.copy, hm_0.elem], by simp [restrict_mem, gP, gt, gg, hm_0.copy, hm_0.elem]⟩
  · intro s_1 σ_5 a_2 hI hp
    rw [I_3_] at hI
    obtain ⟨q_6, q_7, q_8, q_9, q_10⟩ := hI
    try simp [gP, gt, gg, hm_0.copy, hm_0.elem, q_6, q_7, q_8, q_9, q_10]
    rcases cond_cases hp with ⟨h_11, hp⟩ | ⟨h_11, hp⟩
    · try simp at h_11
      obtain ⟨e_12, h_13, hp⟩ := bind_some hp
      have b_14 := at_lo h_13
      have b_15 := at_hi h_13
      try simp at b_14
      try simp at b_15
      have c_16 := seg_at' h_13 0 1 (by decide) (ds := [.sc (.int .i64 e_12)]) rfl
      try simp at c_16
      obtain ⟨y_17, h_18, hp⟩ := bind_some hp
      try simp [gP, gt, gg, hm_0.copy, hm_0.elem, q_6, q_7, q_8, q_9, q_10, h_11, b_14, b_15, c_16]
      refine goal_call ([av .shr e_12] ++ capsAV caps_f_) (Res.res y_17) (by simp [capsAV, gP, gt, gg, hm_0.copy, hm_0.elem, q_6, q_7, q_8, q_9, q_10, h_11]) (hc_f_ _ _ _ (e_12, ()) _ (Nat.le_succ d) (fun k hk => by first | rfl | rw [q_10]) (by repeat (first | exact tight_mem0 _ | exact hT.up | exact hT | (simp only [q_6, q_7, q_8, q_9, q_10]; done) | refine Tight.upd ?_ (by simp) (by simp))) ⟨_, _, (.inl rfl), rfl, rfl⟩ h_18) ?_
      try simp [gP, gt, gg, hm_0.copy, hm_0.elem, q_6, q_7, q_8, q_9, q_10, h_11]
      rcases cond_cases hp with ⟨h_19, hp⟩ | ⟨h_19, hp⟩
      · try simp at h_19
        cases hp
        try simp [gP, gt, gg, hm_0.copy, hm_0.elem, q_6, q_7, q_8, q_9, q_10, h_11, h_19]
        refine goal_outR ?_
        rw [X_4_]
        exact ⟨_, rfl, by simp [restrict_env, gP, gt, gg, hm_0.copy, hm_0.elem, q_6, q_7, q_8, q_9, q_10, h_11, h_19], by simp [restrict_mem, gP, gt, gg, hm_0.copy, hm_0.elem, q_6, q_7, q_8, q_9, q_10, h_11, h_19]⟩
      · try simp at h_19
        cases hp
        try simp [gP, gt, gg, hm_0.copy, hm_0.elem, q_6, q_7, q_8, q_9, q_10, h_11, h_19]
        refine goal_next ?_
        rw [I_3_]
        exact ⟨by simp [restrict_env, gP, gt, gg, hm_0.copy, hm_0.elem, q_6, q_7, q_8, q_9, q_10, h_11, h_19], by simp [restrict_env, gP, gt, gg, hm_0.copy, hm_0.elem, q_6, q_7, q_8, q_9, q_10, h_11, h_19] <;> first | (intro x x1 x2 hx; have h0 := hl_f_ _ hx; simp at h0; omega) | (intro x hx; have h0 := hl_f_ _ hx; simp at h0; omega), by simp [restrict_env, gP, gt, gg, hm_0.copy, hm_0.elem, q_6, q_7, q_8, q_9, q_10, h_11, h_19], by simp [restrict_env, gP, gt, gg, hm_0.copy, hm_0.elem, q_6, q_7, q_8, q_9, q_10, h_11, h_19], by simp [restrict_mem, gP, gt, gg, hm_0.copy, hm_0.elem, q_6, q_7, q_8, q_9, q_10, h_11, h_19]⟩
    · try simp at h_11
      cases hp
      try simp [gP, gt, gg, hm_0.copy, hm_0.elem, q_6, q_7, q_8, q_9, q_10, h_11]
      refine goal_outX ?_
      rw [X_4_]
      exact ⟨_, rfl, by simp [restrict_mem, gP, gt, gg, hm_0.copy, hm_0.elem, q_6, q_7, q_8, q_9, q_10, h_11]⟩
  · intro out hX
    rw [X_4_] at hX
    rcases r_20 with r_20 | r_20
    · simp only [Sum.elim_inl, Sum.elim_inr] at hX hp
      obtain ⟨σ_22, rfl, q_23, q_24⟩ := hX
      cases hp
      simp [Goal, FnEndI, memKill_hi, gP, gt, gg, hm_0.copy, hm_0.elem, q_23, q_24, hT2]
    · simp only [Sum.elim_inl, Sum.elim_inr] at hX hp
      obtain ⟨σ_25, rfl, q_26⟩ := hX
      cases hp
      simp [Goal, FnEndI, memKill_hi, gP, gt, gg, hm_0.copy, hm_0.elem, q_26, hT2]

abbrev G151 (g : Cfg) : Prop := Has Try.prog g 151 Try.f151 [] [] [] []
set_option maxHeartbeats 4000000 in
set_option maxRecDepth 100000 in
theorem wI151 {g : Cfg} (G : G151 g) (G_169 : G169 g) {d : Nat} {mem : Mem} (hT : Tight d mem)  {s : (List Int)} {f_ : (Int → Option (Bool))} {m_0 : Md} (hm_0 : LentM m_0) {fk_f_ : Nat} {caps_f_ : List (Key × Nat)} (hl_f_ : ∀ c ∈ caps_f_, c.1.1 ≤ d) (hc_f_ : Clo g d mem fk_f_ caps_f_ fun x : Int × Unit => f_ x.1) {y} (hp : slices_ContainsFunc_int s f_ = some y) : callo g d 151 [av m_0 s, .one (.fn fk_f_ caps_f_)] mem = some (Res.res y, mem) := by
  have gP := G.P; have gt := G.tk; have gg := G.gh
  have i_169 := G_169.no
  have hT2 : memKill (fun k => decide (d < k.1)) mem = mem := hT
  refine start_in (Try.f151.body.getD .skip) [.tmp 4] G Try.func151 (by kernel_rfl) (by simp [Try.ntmps151]) rfl ?_
  unfold slices_ContainsFunc_int at hp
  obtain ⟨y_1, h_2, hp⟩ := bind_some hp
  simp [Try.f151, gP, gt, gg, i_169, hm_0.copy, hm_0.elem]
  refine goal_call [av m_0 s, .one (.fn fk_f_ caps_f_)] (Res.res y_1) (by simp [gP, gt, gg, i_169, hm_0.copy, hm_0.elem]) (wI169 G_169 (by repeat (first | exact tight_mem0 _ | exact hT.up | exact hT | (simp only [true_and]; done) | refine Tight.upd ?_ (by simp) (by simp))) hm_0 (fun c hc => Nat.le_succ_of_le (hl_f_ c hc)) (hc_f_.mono (Nat.le_succ d) (fun k hk => rfl)) h_2) ?_
  cases hp
  simp [Goal, FnEndI, memKill_hi, gP, gt, gg, i_169, hm_0.copy, hm_0.elem, hT2]

abbrev G153 (g : Cfg) : Prop := Has Try.prog g 153 Try.f153 [] [] [(154, C154)] []
set_option maxHeartbeats 4000000 in
set_option maxRecDepth 100000 in
theorem wI153 {g : Cfg} (G : G153 g) {d : Nat} {mem : Mem} (hT : Tight d mem) {K_1 : Key} {n_ : Int} {c0 : THeap} {mk_1 : Md} (hk_1 : K_1.1 ≤ d) (hb_1 : mem K_1 = some [(.l mk_1 c0.vars.length (encL c0.vars)), (.l mk_1 c0.next.length (encL c0.next))]) {y} (hp : impl_Heap_areCells_1 n_ c0 = some y) : callo g d 153 [av .shr n_, .one (.ptr K_1 0)] mem = some (Res.res y, mem) := by
  have gP := G.P; have gt := G.tk; have gg := G.gh
  have c_154 := G.cs (154, C154) (by simp)
  have hT2 : memKill (fun k => decide (d < k.1)) mem = mem := hT
  have nk_1 : ∀ t, (K_1 = (d + 1, t)) = False := fun t => by simp; intro h; rw [h] at hk_1; simp at hk_1; omega
  refine start_in (Try.f153.body.getD .skip) [.tmp 3] G Try.func153 (by kernel_rfl) (by simp [Try.ntmps153]) rfl ?_
  unfold impl_Heap_areCells_1 at hp
  simp [Try.f153, gP, gt, gg, hb_1, nk_1]
  rcases cond_cases hp with ⟨h_1, hp⟩ | ⟨h_1, hp⟩
  · try simp at h_1
    obtain ⟨y_2, h_3, hp⟩ := bind_some hp
    have c_4 := C154_eq h_3
    simp at c_4
    cases hp
    simp [Goal, FnEndI, memKill_hi, gP, gt, gg, c_154, hb_1, nk_1, h_1, c_4, hT2]
  · try simp at h_1
    cases hp
    simp [Goal, FnEndI, memKill_hi, gP, gt, gg, c_154, hb_1, nk_1, h_1, hT2]

noncomputable def C107 : List AV → Option AV := specP (X := THeap × Unit) fun x => impl_Heap_areCells x.1
theorem C107_eq {h_} {y} (h : impl_Heap_areCells h_ = some y) : C107 [av .shr h_] = some (Res.res y) := specP_eq (X := THeap × Unit) (F := fun x => impl_Heap_areCells x.1) (x := (h_, ())) h
noncomputable def g107 : Cfg := { P := Try.prog, take := [], keep := [((169, 2), { hd := [0, 1, 7, 8], bx := [], ex := [], rt := [4] })], gho := [], ctx := [(152, C152), (154, C154)] }
@[simp] theorem g107_P : g107.P = Try.prog := rfl
@[simp] theorem g107_t : g107.take = [] := rfl
@[simp] theorem g107_g : g107.gho = [] := rfl
@[simp] theorem g107_152 : lookN 152 g107.ctx = some C152 := rfl
@[simp] theorem g107_154 : lookN 154 g107.ctx = some C154 := rfl
@[simp] theorem g107_151 : lookN 151 g107.ctx = none := rfl
@[simp] theorem g107_169 : lookN 169 g107.ctx = none := rfl
@[simp] theorem g107_153 : lookN 153 g107.ctx = none := rfl
set_option maxHeartbeats 4000000 in
set_option maxRecDepth 100000 in
theorem w107 {h_} {y} (hp : impl_Heap_areCells h_ = some y) : ∃ m, callo g107 0 107 [av .shr h_] mem0 = some (Res.res y, m) := by
  have G_151 : G151 g107 := ⟨rfl, by kernel_rfl, rfl, fun t => by simp, fun i => by simp [lookK], by simp [g107, lookK], by simp⟩
  have G_169 : G169 g107 := ⟨rfl, by kernel_rfl, rfl, fun t => by simp, fun i => by simp [lookK], by simp [g107, lookK], by simp⟩
  have G_153 : G153 g107 := ⟨rfl, by kernel_rfl, rfl, fun t => by simp, fun i => by simp [lookK], by simp [g107, lookK], by simp⟩
  refine start_fn (Try.f107.body.getD .skip) [.tmp 2] rfl rfl Try.func107 (by kernel_rfl) (by kernel_rfl) (by simp [Try.ntmps107]) rfl ?_
  unfold impl_Heap_areCells at hp
  obtain ⟨y_1, h_2, hp⟩ := bind_some hp
  have c_3 := C152_eq h_2
  simp at c_3
  obtain ⟨y_4, h_5, hp⟩ := bind_some hp
  simp [Try.f107, c_3]
  refine goal_call [av .bor y_1, .one (.fn 153 [((1, 1), 0)])] (Res.res y_4) (by simp) (wI151 G_151 G_169 (by repeat (first | exact tight_mem0 _ | exact hT.up | exact hT | (simp only [true_and]; done) | refine Tight.upd ?_ (by simp) (by simp))) (.inr rfl) (by simp) (clo1 (p := fun x0 => impl_Heap_areCells_1 x0 h_) fun d2 mem2 m0 x0 r2 hd2 ha2 hT2 hm0 hr2 => wI153 (mk_1 := .shr) G_153 hT2 (show 1 ≤ d2 from hd2) ((ha2 _ (Nat.le_refl _)).trans (by simp [c_3])) hr2) h_5) ?_
  cases hp
  simp [Goal, FnEnd]
theorem pc107 : PC Try.prog 107 C107 := pc_of (g := g107) (ctxOK_of [(152, C152), (154, C154)] rfl ⟨pc152, pc154, trivial⟩) ⟨Try.f107, Try.func107, by kernel_rfl, by kernel_rfl⟩ fun x y h => w107 h

noncomputable def C178 : List AV → Option AV := specP (X := (List Int) × Int × Unit) fun x => impl_Positions x.1 x.2.1
theorem C178_eq {list n_} {y} (h : impl_Positions list n_ = some y) : C178 [av .shr list, av .shr n_] = some (Res.res y) := specP_eq (X := (List Int) × Int × Unit) (F := fun x => impl_Positions x.1 x.2.1) (x := (list, n_, ())) h
noncomputable def g178 : Cfg := { P := Try.prog, take := [(178, 19), (178, 24)], keep := [((178, 3), { hd := [1, 5, 9, 10, 11], bx := [], ex := [5], rt := [4] })], gho := [], ctx := [] }
@[simp] theorem g178_P : g178.P = Try.prog := rfl
@[simp] theorem g178_t : g178.take = [(178, 19), (178, 24)] := rfl
@[simp] theorem g178_g : g178.gho = [] := rfl
set_option maxHeartbeats 4000000 in
set_option maxRecDepth 100000 in
theorem w178 {list n_} {y} (hp : impl_Positions list n_ = some y) : ∃ m, callo g178 0 178 [av .shr list, av .shr n_] mem0 = some (Res.res y, m) := by
  refine start_fn (Try.f178.body.getD .skip) [.tmp 4] rfl rfl Try.func178 (by kernel_rfl) (by kernel_rfl) (by simp [Try.ntmps178]) rfl ?_
  unfold impl_Positions at hp
  simp [Try.f178]
  obtain ⟨r_21, h_22, hp⟩ := bind_some hp
  obtain ⟨I_3, I_3_⟩ : ∃ I : (List Int) × Int → St → Prop, I = (fun (s_1 : (List Int) × Int) (σ : St) => σ.env 1 = .one (.s (.int .i64 n_)) ∧ σ.env 5 = .one (.l .own s_1.1.length (encL s_1.1)) ∧ σ.env 9 = .one (.l .shr list.length (encL list)) ∧ σ.env 10 = .one (.s (.int .i64 (list.length : Int))) ∧ σ.env 11 = .one (.s (.int .i64 s_1.2)) ∧ σ.mem = mem0) := ⟨_, rfl⟩
  obtain ⟨X_4, X_4_⟩ : ∃ X : (List Int) → Out → Prop, X = (fun (r_21 : (List Int)) (out : Out) => ∃ σ : St, out = .exit 0 σ ∧ σ.env 5 = .one (.l .own r_21.length (encL r_21)) ∧ σ.mem = mem0) := ⟨_, rfl⟩
  refine loopP ({ hd := [1, 5, 9, 10, 11], bx := [], ex := [5], rt := [4] }) I_3 X_4 h_22 (by exact rfl) ?_ ?_ ?_
  · rw [I_3_]
    exact ⟨by simp [restrict_env], by simp [restrict_env], by simp [restrict_env], by simp [restrict_env], by simp [restrict_env], by simp [restrict_mem]⟩
  · intro s_1 σ_5 a_2 hI hp
    rw [I_3_] at hI
    obtain ⟨q_6, q_7, q_8, q_9, q_10, q_11⟩ := hI
    try simp [q_6, q_7, q_8, q_9, q_10, q_11]
    rcases cond_cases hp with ⟨h_12, hp⟩ | ⟨h_12, hp⟩
    · try simp at h_12
      obtain ⟨e_13, h_14, hp⟩ := bind_some hp
      have b_15 := at_lo h_14
      have b_16 := at_hi h_14
      try simp at b_15
      try simp at b_16
      have c_17 := seg_at' h_14 0 1 (by decide) (ds := [.sc (.int .i64 e_13)]) rfl
      try simp at c_17
      try simp [q_6, q_7, q_8, q_9, q_10, q_11, h_12, b_15, b_16, c_17]
      rcases cond_cases hp with ⟨h_18, hp⟩ | ⟨h_18, hp⟩
      · try simp at h_18
        obtain ⟨_, h_19, hp⟩ := bind_some hp
        have b_20 := room_ok h_19
        try simp at b_20
        cases hp
        try simp [q_6, q_7, q_8, q_9, q_10, q_11, h_12, h_18, b_20]
        refine goal_next ?_
        rw [I_3_]
        exact ⟨by simp [restrict_env, q_6, q_7, q_8, q_9, q_10, q_11, h_12, h_18, b_20], by simp [restrict_env, q_6, q_7, q_8, q_9, q_10, q_11, h_12, h_18, b_20], by simp [restrict_env, q_6, q_7, q_8, q_9, q_10, q_11, h_12, h_18, b_20], by simp [restrict_env, q_6, q_7, q_8, q_9, q_10, q_11, h_12, h_18, b_20], by simp [restrict_env, q_6, q_7, q_8, q_9, q_10, q_11, h_12, h_18, b_20], by simp [restrict_mem, q_6, q_7, q_8, q_9, q_10, q_11, h_12, h_18, b_20]⟩
      · try simp at h_18
        cases hp
        try simp [q_6, q_7, q_8, q_9, q_10, q_11, h_12, h_18]
        refine goal_next ?_
        rw [I_3_]
        exact ⟨by simp [restrict_env, q_6, q_7, q_8, q_9, q_10, q_11, h_12, h_18], by simp [restrict_env, q_6, q_7, q_8, q_9, q_10, q_11, h_12, h_18], by simp [restrict_env, q_6, q_7, q_8, q_9, q_10, q_11, h_12, h_18], by simp [restrict_env, q_6, q_7, q_8, q_9, q_10, q_11, h_12, h_18], by simp [restrict_env, q_6, q_7, q_8, q_9, q_10, q_11, h_12, h_18], by simp [restrict_mem, q_6, q_7, q_8, q_9, q_10, q_11, h_12, h_18]⟩
    · try simp at h_12
      cases hp
      try simp [q_6, q_7, q_8, q_9, q_10, q_11, h_12]
      refine goal_outX ?_
      rw [X_4_]
      exact ⟨_, rfl, by simp [restrict_env, q_6, q_7, q_8, q_9, q_10, q_11, h_12], by simp [restrict_mem, q_6, q_7, q_8, q_9, q_10, q_11, h_12]⟩
  · intro out hX
    rw [X_4_] at hX
    obtain ⟨σ_23, rfl, q_24, q_25⟩ := hX
    cases hp
    simp [Goal, FnEnd, q_24, q_25]
theorem pc178 : PC Try.prog 178 C178 := pc_of (g := g178) (fun f F h => by cases h) ⟨Try.f178, Try.func178, by kernel_rfl, by kernel_rfl⟩ fun x y h => w178 h

noncomputable def C135 : List AV → Option AV := specP (X := Bool × Unit) fun x => impl_truthOf x.1
theorem C135_eq {b_} {y} (h : impl_truthOf b_ = some y) : C135 [av .shr b_] = some (Res.res y) := specP_eq (X := Bool × Unit) (F := fun x => impl_truthOf x.1) (x := (b_, ())) h
noncomputable def g135 : Cfg := { P := Try.prog, take := [], keep := [], gho := [], ctx := [] }
@[simp] theorem g135_P : g135.P = Try.prog := rfl
@[simp] theorem g135_t : g135.take = [] := rfl
@[simp] theorem g135_g : g135.gho = [] := rfl
set_option maxHeartbeats 4000000 in
set_option maxRecDepth 100000 in
theorem w135 {b_} {y} (hp : impl_truthOf b_ = some y) : ∃ m, callo g135 0 135 [av .shr b_] mem0 = some (Res.res y, m) := by
  refine start_fn (Try.f135.body.getD .skip) [.tmp 2] rfl rfl Try.func135 (by kernel_rfl) (by kernel_rfl) (by simp [Try.ntmps135]) rfl ?_
  unfold impl_truthOf at hp
  simp [Try.f135]
  rcases cond_cases hp with ⟨h_1, hp⟩ | ⟨h_1, hp⟩
  · try simp at h_1
    cases hp
    simp [Goal, FnEnd, h_1]
  · try simp at h_1
    cases hp
    simp [Goal, FnEnd, h_1]
theorem pc135 : PC Try.prog 135 C135 := pc_of (g := g135) (fun f F h => by cases h) ⟨Try.f135, Try.func135, by kernel_rfl, by kernel_rfl⟩ fun x y h => w135 h

noncomputable def C171 : List AV → Option AV := specP (X := (List Int) × Int × Unit) fun x => slices_Index_int x.1 x.2.1
theorem C171_eq {s v} {y} (h : slices_Index_int s v = some y) : C171 [av .shr s, av .shr v] = some (Res.res y) := specP_eq (X := (List Int) × Int × Unit) (F := fun x => slices_Index_int x.1 x.2.1) (x := (s, v, ())) h
noncomputable def g171 : Cfg := { P := Try.prog, take := [], keep := [((171, 2), { hd := [0, 1, 7, 8], bx := [], ex := [], rt := [4] })], gho := [], ctx := [] }
@[simp] theorem g171_P : g171.P = Try.prog := rfl
@[simp] theorem g171_t : g171.take = [] := rfl
@[simp] theorem g171_g : g171.gho = [] := rfl
set_option maxHeartbeats 4000000 in
set_option maxRecDepth 100000 in
theorem w171 {s v} {y} (hp : slices_Index_int s v = some y) : ∃ m, callo g171 0 171 [av .shr s, av .shr v] mem0 = some (Res.res y, m) := by
  refine start_fn (Try.f171.body.getD .skip) [.tmp 4] rfl rfl Try.func171 (by kernel_rfl) (by kernel_rfl) (by simp [Try.ntmps171]) rfl ?_
  unfold slices_Index_int at hp
  simp [Try.f171]
  obtain ⟨r_18, h_19, hp⟩ := bind_some hp
  obtain ⟨I_3, I_3_⟩ : ∃ I : Int → St → Prop, I = (fun (s_1 : Int) (σ : St) => σ.env 0 = .one (.l .shr s.length (encL s)) ∧ σ.env 1 = .one (.s (.int .i64 v)) ∧ σ.env 7 = .one (.s (.int .i64 (s.length : Int))) ∧ σ.env 8 = .one (.s (.int .i64 s_1)) ∧ σ.mem = mem0) := ⟨_, rfl⟩
  obtain ⟨X_4, X_4_⟩ : ∃ X : ((Int) ⊕ (Unit)) → Out → Prop, X = (fun (r_18 : (Int) ⊕ (Unit)) (out : Out) => Sum.elim (fun r_18 => ∃ σ : St, out = .ret σ ∧ σ.env 4 = .one (.s (.int .i64 r_18)) ∧ σ.mem = mem0) (fun r_18 => ∃ σ : St, out = .exit 0 σ ∧ σ.mem = mem0) r_18) := ⟨_, rfl⟩
  refine loopP ({ hd := [0, 1, 7, 8], bx := [], ex := [], rt := [4] }) I_3 X_4 h_19 (by exact rfl) ?_ ?_ ?_
  · rw [I_3_]
    exact ⟨by simp [restrict_env], by simp [restrict_env], by simp [restrict_env], by simp [restrict_env], by simp [restrict_mem]⟩
  · intro s_1 σ_5 a_2 hI hp
    rw [I_3_] at hI
    obtain ⟨q_6, q_7, q_8, q_9, q_10⟩ := hI
    try simp [q_6, q_7, q_8, q_9, q_10]
    rcases cond_cases hp with ⟨h_11, hp⟩ | ⟨h_11, hp⟩
    · try simp at h_11
      obtain ⟨e_12, h_13, hp⟩ := bind_some hp
      have b_14 := at_lo h_13
      have b_15 := at_hi h_13
      try simp at b_14
      try simp at b_15
      have c_16 := seg_at' h_13 0 1 (by decide) (ds := [.sc (.int .i64 e_12)]) rfl
      try simp at c_16
      try simp [q_6, q_7, q_8, q_9, q_10, h_11, b_14, b_15, c_16]
      rcases cond_cases hp with ⟨h_17, hp⟩ | ⟨h_17, hp⟩
      · try simp at h_17
        cases hp
        try simp [q_6, q_7, q_8, q_9, q_10, h_11, h_17]
        refine goal_outR ?_
        rw [X_4_]
        exact ⟨_, rfl, by simp [restrict_env, q_6, q_7, q_8, q_9, q_10, h_11, h_17], by simp [restrict_mem, q_6, q_7, q_8, q_9, q_10, h_11, h_17]⟩
      · try simp at h_17
        cases hp
        try simp [q_6, q_7, q_8, q_9, q_10, h_11, h_17]
        refine goal_next ?_
        rw [I_3_]
        exact ⟨by simp [restrict_env, q_6, q_7, q_8, q_9, q_10, h_11, h_17], by simp [restrict_env, q_6, q_7, q_8, q_9, q_10, h_11, h_17], by simp [restrict_env, q_6, q_7, q_8, q_9, q_10, h_11, h_17], by simp [restrict_env, q_6, q_7, q_8, q_9, q_10, h_11, h_17], by simp [restrict_mem, q_6, q_7, q_8, q_9, q_10, h_11, h_17]⟩
    · try simp at h_11
      cases hp
      try simp [q_6, q_7, q_8, q_9, q_10, h_11]
      refine goal_outX ?_
      rw [X_4_]
      exact ⟨_, rfl, by simp [restrict_mem, q_6, q_7, q_8, q_9, q_10, h_11]⟩
  · intro out hX
    rw [X_4_] at hX
    rcases r_18 with r_18 | r_18
    · simp only [Sum.elim_inl, Sum.elim_inr] at hX hp
      obtain ⟨σ_20, rfl, q_21, q_22⟩ := hX
      cases hp
      simp [Goal, FnEnd, q_21, q_22]
    · simp only [Sum.elim_inl, Sum.elim_inr] at hX hp
      obtain ⟨σ_23, rfl, q_24⟩ := hX
      cases hp
      simp [Goal, FnEnd, q_24]
theorem pc171 : PC Try.prog 171 C171 := pc_of (g := g171) (fun f F h => by cases h) ⟨Try.f171, Try.func171, by kernel_rfl, by kernel_rfl⟩ fun x y h => w171 h

noncomputable def C155 : List AV → Option AV := specP (X := (List Int) × Int × Unit) fun x => slices_Contains_int x.1 x.2.1
theorem C155_eq {s v} {y} (h : slices_Contains_int s v = some y) : C155 [av .shr s, av .shr v] = some (Res.res y) := specP_eq (X := (List Int) × Int × Unit) (F := fun x => slices_Contains_int x.1 x.2.1) (x := (s, v, ())) h
noncomputable def g155 : Cfg := { P := Try.prog, take := [], keep := [], gho := [], ctx := [(171, C171)] }
@[simp] theorem g155_P : g155.P = Try.prog := rfl
@[simp] theorem g155_t : g155.take = [] := rfl
@[simp] theorem g155_g : g155.gho = [] := rfl
@[simp] theorem g155_171 : lookN 171 g155.ctx = some C171 := rfl
set_option maxHeartbeats 4000000 in
set_option maxRecDepth 100000 in
theorem w155 {s v} {y} (hp : slices_Contains_int s v = some y) : ∃ m, callo g155 0 155 [av .shr s, av .shr v] mem0 = some (Res.res y, m) := by
  refine start_fn (Try.f155.body.getD .skip) [.tmp 4] rfl rfl Try.func155 (by kernel_rfl) (by kernel_rfl) (by simp [Try.ntmps155]) rfl ?_
  unfold slices_Contains_int at hp
  obtain ⟨y_1, h_2, hp⟩ := bind_some hp
  have c_3 := C171_eq h_2
  simp at c_3
  cases hp
  simp [Try.f155, Goal, FnEnd, c_3]
theorem pc155 : PC Try.prog 155 C155 := pc_of (g := g155) (ctxOK_of [(171, C171)] rfl ⟨pc171, trivial⟩) ⟨Try.f155, Try.func155, by kernel_rfl, by kernel_rfl⟩ fun x y h => w155 h

noncomputable def C156 : List AV → Option AV := specP (X := THeap × Int × Unit) fun x => impl_Followed x.1 x.2.1
theorem C156_eq {h_ cell} {y} (h : impl_Followed h_ cell = some y) : C156 [av .shr h_, av .shr cell] = some (Res.res y) := specP_eq (X := THeap × Int × Unit) (F := fun x => impl_Followed x.1 x.2.1) (x := (h_, cell, ())) h
noncomputable def g156 : Cfg := { P := Try.prog, take := [(156, 27), (156, 31)], keep := [((156, 3), { hd := [1, 2, 5, 6], bx := [], ex := [5], rt := [4] })], gho := [], ctx := [(154, C154), (155, C155)] }
@[simp] theorem g156_P : g156.P = Try.prog := rfl
@[simp] theorem g156_t : g156.take = [(156, 27), (156, 31)] := rfl
@[simp] theorem g156_g : g156.gho = [] := rfl
@[simp] theorem g156_154 : lookN 154 g156.ctx = some C154 := rfl
@[simp] theorem g156_155 : lookN 155 g156.ctx = some C155 := rfl
set_option maxHeartbeats 4000000 in
set_option maxRecDepth 100000 in
theorem w156 {h_ cell} {y} (hp : impl_Followed h_ cell = some y) : ∃ m, callo g156 0 156 [av .shr h_, av .shr cell] mem0 = some (Res.res y, m) := by
  refine start_fn (Try.f156.body.getD .skip) [.tmp 4] rfl rfl Try.func156 (by kernel_rfl) (by kernel_rfl) (by simp [Try.ntmps156]) rfl ?_
  unfold impl_Followed at hp
  simp [Try.f156]
  obtain ⟨r_44, h_45, hp⟩ := bind_some hp
  obtain ⟨I_3, I_3_⟩ : ∃ I : (List Int) × Int → St → Prop, I = (fun (s_1 : (List Int) × Int) (σ : St) => σ.env 1 = .one (.s (.int .i64 cell)) ∧ σ.env 2 = .one (.ptr (1, 2) 0) ∧ σ.env 5 = .one (.l .own s_1.1.length (encL s_1.1)) ∧ σ.env 6 = .one (.s (.int .i64 s_1.2)) ∧ σ.mem (1, 2) = some [(.l .shr h_.vars.length (encL h_.vars)), (.l .shr h_.next.length (encL h_.next))] ∧ NoBox [(1, 2)] σ.mem) := ⟨_, rfl⟩
  obtain ⟨X_4, X_4_⟩ : ∃ X : (((List Int)) ⊕ (Unit)) → Out → Prop, X = (fun (r_44 : ((List Int)) ⊕ (Unit)) (out : Out) => Sum.elim (fun r_44 => ∃ σ : St, out = .exit 0 σ ∧ σ.env 5 = .one (.l .own r_44.length (encL r_44)) ∧ σ.mem (1, 2) = some [(.l .shr h_.vars.length (encL h_.vars)), (.l .shr h_.next.length (encL h_.next))] ∧ NoBox [(1, 2)] σ.mem) (fun r_44 => ∃ σ : St, out = .ret σ ∧ σ.env 4 = .one (.l .own 0 []) ∧ σ.mem (1, 2) = some [(.l .shr h_.vars.length (encL h_.vars)), (.l .shr h_.next.length (encL h_.next))] ∧ NoBox [(1, 2)] σ.mem) r_44) := ⟨_, rfl⟩
  refine loopP ({ hd := [1, 2, 5, 6], bx := [], ex := [5], rt := [4] }) I_3 X_4 h_45 (by exact rfl) ?_ ?_ ?_
  · rw [I_3_]
    exact ⟨by simp [restrict_env], by simp [restrict_env], by simp [restrict_env], by simp [restrict_env], by simp [restrict_mem], NoBox.restrict (by intro k hk hb; simp at hk hb; simp [hk, hb])⟩
  · intro s_1 σ_5 a_2 hI hp
    rw [I_3_] at hI
    obtain ⟨q_6, q_7, q_8, q_9, q_10, hn_11⟩ := hI
    try simp [q_6, q_7, q_8, q_9, q_10]
    rcases cond_cases hp with ⟨h_12, hp⟩ | ⟨h_12, hp⟩
    · try simp at h_12
      obtain ⟨y_13, h_14, hp⟩ := bind_some hp
      have c_15 := C154_eq h_14
      simp at c_15
      try simp [q_6, q_7, q_8, q_9, q_10, h_12, c_15]
      rcases cond_cases hp with ⟨h_16, hp⟩ | ⟨h_16, hp⟩
      · try simp at h_16
        obtain ⟨y_17, h_18, hp⟩ := bind_some hp
        have c_19 := C155_eq h_18
        simp at c_19
        try simp [q_6, q_7, q_8, q_9, q_10, h_12, h_16, c_19]
        rcases cond_cases hp with ⟨h_20, hp⟩ | ⟨h_20, hp⟩
        · try simp at h_20
          cases hp
          try simp [q_6, q_7, q_8, q_9, q_10, h_12, h_16, h_20]
          refine goal_outX ?_
          rw [X_4_]
          exact ⟨_, rfl, by simp [restrict_env, q_6, q_7, q_8, q_9, q_10, h_12, h_16, h_20], by simp [restrict_mem, q_6, q_7, q_8, q_9, q_10, h_12, h_16, h_20], NoBox.restrict (by intro k hk hb; simp at hk hb; simp [hk, hb, q_6, q_7, q_8, q_9, q_10, h_12, h_16, h_20, hn_11 k (by simp [hk, hb])])⟩
        · try simp at h_20
          obtain ⟨_, h_21, hp⟩ := bind_some hp
          have b_22 := room_ok h_21
          try simp at b_22
          obtain ⟨e_23, h_24, hp⟩ := bind_some hp
          have b_25 := at_lo h_24
          have b_26 := at_hi h_24
          try simp at b_25
          try simp at b_26
          have c_27 := seg_at' h_24 0 1 (by decide) (ds := [.sc (.int .i64 e_23)]) rfl
          try simp at c_27
          cases hp
          try simp [q_6, q_7, q_8, q_9, q_10, h_12, h_16, h_20, b_22, b_25, b_26, c_27]
          refine goal_next ?_
          rw [I_3_]
          exact ⟨by simp [restrict_env, q_6, q_7, q_8, q_9, q_10, h_12, h_16, h_20, b_22, b_25, b_26, c_27], by simp [restrict_env, q_6, q_7, q_8, q_9, q_10, h_12, h_16, h_20, b_22, b_25, b_26, c_27], by simp [restrict_env, q_6, q_7, q_8, q_9, q_10, h_12, h_16, h_20, b_22, b_25, b_26, c_27], by simp [restrict_env, q_6, q_7, q_8, q_9, q_10, h_12, h_16, h_20, b_22, b_25, b_26, c_27], by simp [restrict_mem, q_6, q_7, q_8, q_9, q_10, h_12, h_16, h_20, b_22, b_25, b_26, c_27], NoBox.restrict (by intro k hk hb; simp at hk hb; simp [hk, hb, q_6, q_7, q_8, q_9, q_10, h_12, h_16, h_20, b_22, b_25, b_26, c_27, hn_11 k (by simp [hk, hb])])⟩
      · try simp at h_16
        cases hp
        try simp [q_6, q_7, q_8, q_9, q_10, h_12, h_16]
        refine goal_outR ?_
        rw [X_4_]
        exact ⟨_, rfl, by simp [restrict_env, q_6, q_7, q_8, q_9, q_10, h_12, h_16], by simp [restrict_mem, q_6, q_7, q_8, q_9, q_10, h_12, h_16], NoBox.restrict (by intro k hk hb; simp at hk hb; simp [hk, hb, q_6, q_7, q_8, q_9, q_10, h_12, h_16, hn_11 k (by simp [hk, hb])])⟩
    · try simp at h_12
      try simp [q_6, q_7, q_8, q_9, q_10, h_12]
      rcases cond_cases hp with ⟨h_28, hp⟩ | ⟨h_28, hp⟩
      · try simp at h_28
        obtain ⟨y_29, h_30, hp⟩ := bind_some hp
        have c_31 := C154_eq h_30
        simp at c_31
        try simp [q_6, q_7, q_8, q_9, q_10, h_12, h_28, c_31]
        rcases cond_cases hp with ⟨h_32, hp⟩ | ⟨h_32, hp⟩
        · try simp at h_32
          obtain ⟨y_33, h_34, hp⟩ := bind_some hp
          have c_35 := C155_eq h_34
          simp at c_35
          try simp [q_6, q_7, q_8, q_9, q_10, h_12, h_28, h_32, c_35]
          rcases cond_cases hp with ⟨h_36, hp⟩ | ⟨h_36, hp⟩
          · try simp at h_36
            cases hp
            try simp [q_6, q_7, q_8, q_9, q_10, h_12, h_28, h_32, h_36]
            refine goal_outX ?_
            rw [X_4_]
            exact ⟨_, rfl, by simp [restrict_env, q_6, q_7, q_8, q_9, q_10, h_12, h_28, h_32, h_36], by simp [restrict_mem, q_6, q_7, q_8, q_9, q_10, h_12, h_28, h_32, h_36], NoBox.restrict (by intro k hk hb; simp at hk hb; simp [hk, hb, q_6, q_7, q_8, q_9, q_10, h_12, h_28, h_32, h_36, hn_11 k (by simp [hk, hb])])⟩
          · try simp at h_36
            obtain ⟨_, h_37, hp⟩ := bind_some hp
            have b_38 := room_ok h_37
            try simp at b_38
            obtain ⟨e_39, h_40, hp⟩ := bind_some hp
            have b_41 := at_lo h_40
            have b_42 := at_hi h_40
            try simp at b_41
            try simp at b_42
            have c_43 := seg_at' h_40 0 1 (by decide) (ds := [.sc (.int .i64 e_39)]) rfl
            try simp at c_43
            cases hp
            try simp [q_6, q_7, q_8, q_9, q_10, h_12, h_28, h_32, h_36, b_38, b_41, b_42, c_43]
            refine goal_next ?_
            rw [I_3_]
            exact ⟨by simp [restrict_env, q_6, q_7, q_8, q_9, q_10, h_12, h_28, h_32, h_36, b_38, b_41, b_42, c_43], by simp [restrict_env, q_6, q_7, q_8, q_9, q_10, h_12, h_28, h_32, h_36, b_38, b_41, b_42, c_43], by simp [restrict_env, q_6, q_7, q_8, q_9, q_10, h_12, h_28, h_32, h_36, b_38, b_41, b_42, c_43], by simp [restrict_env, q_6, q_7, q_8, q_9, q_10, h_12, h_28, h_32, h_36, b_38, b_41, b_42, c_43], by simp [restrict_mem, q_6, q_7, q_8, q_9, q_10, h_12, h_28, h_32, h_36, b_38, b_41, b_42, c_43], NoBox.restrict (by intro k hk hb; simp at hk hb; simp [hk, hb, q_6, q_7, q_8, q_9, q_10, h_12, h_28, h_32, h_36, b_38, b_41, b_42, c_43, hn_11 k (by simp [hk, hb])])⟩
        · try simp at h_32
          cases hp
          try simp [q_6, q_7, q_8, q_9, q_10, h_12, h_28, h_32]
          refine goal_outR ?_
          rw [X_4_]
          exact ⟨_, rfl, by simp [restrict_env, q_6, q_7, q_8, q_9, q_10, h_12, h_28, h_32], by simp [restrict_mem, q_6, q_7, q_8, q_9, q_10, h_12, h_28, h_32], NoBox.restrict (by intro k hk hb; simp at hk hb; simp [hk, hb, q_6, q_7, q_8, q_9, q_10, h_12, h_28, h_32, hn_11 k (by simp [hk, hb])])⟩
      · try simp at h_28
        cases hp
        try simp [q_6, q_7, q_8, q_9, q_10, h_12, h_28]
        refine goal_outX ?_
        rw [X_4_]
        exact ⟨_, rfl, by simp [restrict_env, q_6, q_7, q_8, q_9, q_10, h_12, h_28], by simp [restrict_mem, q_6, q_7, q_8, q_9, q_10, h_12, h_28], NoBox.restrict (by intro k hk hb; simp at hk hb; simp [hk, hb, q_6, q_7, q_8, q_9, q_10, h_12, h_28, hn_11 k (by simp [hk, hb])])⟩
  · intro out hX
    rw [X_4_] at hX
    rcases r_44 with r_44 | r_44
    · simp only [Sum.elim_inl, Sum.elim_inr] at hX hp
      obtain ⟨σ_46, rfl, q_47, q_48, hn_49⟩ := hX
      cases hp
      simp [Goal, FnEnd, q_47, q_48]
    · simp only [Sum.elim_inl, Sum.elim_inr] at hX hp
      obtain ⟨σ_50, rfl, q_51, q_52, hn_53⟩ := hX
      cases hp
      simp [Goal, FnEnd, q_51, q_52]
theorem pc156 : PC Try.prog 156 C156 := pc_of (g := g156) (ctxOK_of [(154, C154), (155, C155)] rfl ⟨pc154, pc155, trivial⟩) ⟨Try.f156, Try.func156, by kernel_rfl, by kernel_rfl⟩ fun x y h => w156 h

noncomputable def C162 : List AV → Option AV := specP (X := THeap × Unit) fun x => impl_StructureOf x.1
theorem C162_eq {h_} {y} (h : impl_StructureOf h_ = some y) : C162 [av .shr h_] = some (Res.res y) := specP_eq (X := THeap × Unit) (F := fun x => impl_StructureOf x.1) (x := (h_, ())) h
noncomputable def g162 : Cfg := { P := Try.prog, take := [(162, 49), (162, 58), (162, 70), (162, 71), (162, 82), (162, 96)], keep := [((162, 5), { hd := [1, 2, 3, 29, 30], bx := [5], ex := [2, 3], rt := [2] }), ((162, 9), { hd := [1, 2, 3, 4, 5, 29, 30, 42, 43, 44], bx := [], ex := [1, 2, 3, 4, 5, 29, 30], rt := [2] }), ((162, 16), { hd := [1, 2, 3, 4, 29, 30, 77, 78], bx := [], ex := [1, 2, 3, 29, 30], rt := [2] })], gho := [], ctx := [(49, C49), (107, C107), (135, C135), (155, C155), (156, C156), (178, C178)] }
@[simp] theorem g162_P : g162.P = Try.prog := rfl
@[simp] theorem g162_t : g162.take = [(162, 49), (162, 58), (162, 70), (162, 71), (162, 82), (162, 96)] := rfl
@[simp] theorem g162_g : g162.gho = [] := rfl
@[simp] theorem g162_49 : lookN 49 g162.ctx = some C49 := rfl
@[simp] theorem g162_107 : lookN 107 g162.ctx = some C107 := rfl
@[simp] theorem g162_135 : lookN 135 g162.ctx = some C135 := rfl
@[simp] theorem g162_155 : lookN 155 g162.ctx = some C155 := rfl
@[simp] theorem g162_156 : lookN 156 g162.ctx = some C156 := rfl
@[simp] theorem g162_178 : lookN 178 g162.ctx = some C178 := rfl
set_option maxHeartbeats 4000000 in
set_option maxRecDepth 100000 in
theorem w162 {h_} {y} (hp : impl_StructureOf h_ = some y) : ∃ m, callo g162 0 162 [av .shr h_] mem0 = some (Res.res y, m) := by
  refine start_fn (Try.f162.body.getD .skip) [.cell 2 52] rfl rfl Try.func162 (by kernel_rfl) (by kernel_rfl) (by simp [Try.ntmps162]) rfl ?_
  unfold impl_StructureOf at hp
  obtain ⟨y_1, h_2, hp⟩ := bind_some hp
  have c_3 := C107_eq h_2
  simp at c_3
  simp [Try.f162, c_3]
  rcases cond_cases hp with ⟨h_4, hp⟩ | ⟨h_4, hp⟩
  · try simp at h_4
    try simp [h_4]
    rcases cond_cases hp with ⟨h_5, hp⟩ | ⟨h_5, hp⟩
    · try simp at h_5
      cases hp
      simp [Goal, FnEnd, retR, rsrc, RSrc.val, nodupR, nodup, tupPart, h_4, h_5]
    · try simp at h_5
      obtain ⟨y_6, h_7, hp⟩ := bind_some hp
      have c_8 := C49_eq h_7
      simp at c_8
      try simp [h_4, h_5, c_8]
      rcases cond_cases hp with ⟨h_9, hp⟩ | ⟨h_9, hp⟩
      · try simp at h_9
        try simp [h_4, h_5, h_9]
        obtain ⟨r_133, h_134, hp⟩ := bind_some hp
        obtain ⟨I_12, I_12_⟩ : ∃ I : Int × (List TNode) × (List Int) → St → Prop, I = (fun (s_10 : Int × (List TNode) × (List Int)) (σ : St) => σ.env 1 = .one (.ptr (1, 1) 0) ∧ σ.env 2 = .one (.ptr (1, 2) 0) ∧ σ.env 3 = .one (.ptr (1, 3) 0) ∧ σ.env 29 = .one (.s (.int .i64 (h_.next.length : Int))) ∧ σ.env 30 = .one (.s (.int .i64 s_10.1)) ∧ σ.mem (1, 1) = some [(.l .shr h_.vars.length (encL h_.vars)), (.l .shr h_.next.length (encL h_.next))] ∧ σ.mem (1, 2) = some [(.l .own 0 []), (.l .own 0 [])] ∧ σ.mem (1, 3) = some [(.l .own s_10.2.1.length (encL s_10.2.1)), (.l .own s_10.2.2.length (encL s_10.2.2))] ∧ NoBox [(1, 1), (1, 2), (1, 3)] σ.mem) := ⟨_, rfl⟩
        obtain ⟨X_13, X_13_⟩ : ∃ X : ((List TNode) × (List Int)) → Out → Prop, X = (fun (r_133 : (List TNode) × (List Int)) (out : Out) => ∃ σ : St, out = .exit 0 σ ∧ σ.env 2 = .one (.ptr (1, 2) 0) ∧ σ.env 3 = .one (.ptr (1, 3) 0) ∧ σ.mem (1, 1) = some [(.l .shr h_.vars.length (encL h_.vars)), (.l .shr h_.next.length (encL h_.next))] ∧ σ.mem (1, 2) = some [(.l .own 0 []), (.l .own 0 [])] ∧ σ.mem (1, 3) = some [(.l .own r_133.1.length (encL r_133.1)), (.l .own r_133.2.length (encL r_133.2))] ∧ NoBox [(1, 1), (1, 2), (1, 3)] σ.mem) := ⟨_, rfl⟩
        refine loopP ({ hd := [1, 2, 3, 29, 30], bx := [5], ex := [2, 3], rt := [2] }) I_12 X_13 h_134 (by exact rfl) ?_ ?_ ?_
        · rw [I_12_]
          exact ⟨by simp [restrict_env, h_4, h_5, h_9], by simp [restrict_env, h_4, h_5, h_9], by simp [restrict_env, h_4, h_5, h_9], by simp [restrict_env, h_4, h_5, h_9], by simp [restrict_env, h_4, h_5, h_9], by simp [restrict_mem, h_4, h_5, h_9], by simp [restrict_mem, h_4, h_5, h_9], by simp [restrict_mem, h_4, h_5, h_9], NoBox.restrict (by intro k hk hb; simp at hk hb; simp [hk, hb, h_4, h_5, h_9])⟩
        · intro s_10 σ_14 a_11 hI hp
          rw [I_12_] at hI
          obtain ⟨q_15, q_16, q_17, q_18, q_19, q_20, q_21, q_22, hn_23⟩ := hI
          try simp [h_4, h_5, h_9, q_15, q_16, q_17, q_18, q_19, q_20, q_21, q_22]
          rcases cond_cases hp with ⟨h_24, hp⟩ | ⟨h_24, hp⟩
          · try simp at h_24
            obtain ⟨y_25, h_26, hp⟩ := bind_some hp
            have c_27 := C178_eq h_26
            simp at c_27
            obtain ⟨y_28, h_29, hp⟩ := bind_some hp
            have c_30 := C135_eq h_29
            simp at c_30
            have n_31 := hn_23 (1, 5) (by simp)
            try simp [h_4, h_5, h_9, q_15, q_16, q_17, q_18, q_19, q_20, q_21, q_22, h_24, c_27, c_30, n_31]
            obtain ⟨r_74, h_75, hp⟩ := bind_some hp
            obtain ⟨I_34, I_34_⟩ : ∃ I : Int × (List Int) × (List Int) → St → Prop, I = (fun (s_32 : Int × (List Int) × (List Int)) (σ : St) => σ.env 1 = .one (.ptr (1, 1) 0) ∧ σ.env 2 = .one (.ptr (1, 2) 0) ∧ σ.env 3 = .one (.ptr (1, 3) 0) ∧ σ.env 4 = .one (.s (.int .i64 s_10.1)) ∧ σ.env 5 = .one (.ptr (1, 5) 0) ∧ σ.env 29 = .one (.s (.int .i64 (h_.next.length : Int))) ∧ σ.env 30 = .one (.s (.int .i64 s_10.1)) ∧ σ.env 42 = .one (.l .shr h_.vars.length (encL h_.vars)) ∧ σ.env 43 = .one (.s (.int .i64 (h_.vars.length : Int))) ∧ σ.env 44 = .one (.s (.int .i64 s_32.1)) ∧ σ.mem (1, 1) = some [(.l .shr h_.vars.length (encL h_.vars)), (.l .shr h_.next.length (encL h_.next))] ∧ σ.mem (1, 2) = some [(.l .own 0 []), (.l .own 0 [])] ∧ σ.mem (1, 3) = some [(.l .own s_10.2.1.length (encL s_10.2.1)), (.l .own s_10.2.2.length (encL s_10.2.2))] ∧ σ.mem (1, 5) = some [(.l .own s_32.2.1.length (encL s_32.2.1)), (.l .own s_32.2.2.length (encL s_32.2.2)), (.s (.int .i64 y_28)), (.s (.int .i64 0))] ∧ NoBox [(1, 1), (1, 2), (1, 3), (1, 5)] σ.mem) := ⟨_, rfl⟩
            obtain ⟨X_35, X_35_⟩ : ∃ X : ((List Int) × (List Int)) → Out → Prop, X = (fun (r_74 : (List Int) × (List Int)) (out : Out) => ∃ σ : St, out = .exit 2 σ ∧ σ.env 1 = .one (.ptr (1, 1) 0) ∧ σ.env 2 = .one (.ptr (1, 2) 0) ∧ σ.env 3 = .one (.ptr (1, 3) 0) ∧ σ.env 4 = .one (.s (.int .i64 s_10.1)) ∧ σ.env 5 = .one (.ptr (1, 5) 0) ∧ σ.env 29 = .one (.s (.int .i64 (h_.next.length : Int))) ∧ σ.env 30 = .one (.s (.int .i64 s_10.1)) ∧ σ.mem (1, 1) = some [(.l .shr h_.vars.length (encL h_.vars)), (.l .shr h_.next.length (encL h_.next))] ∧ σ.mem (1, 2) = some [(.l .own 0 []), (.l .own 0 [])] ∧ σ.mem (1, 3) = some [(.l .own s_10.2.1.length (encL s_10.2.1)), (.l .own s_10.2.2.length (encL s_10.2.2))] ∧ σ.mem (1, 5) = some [(.l .own r_74.1.length (encL r_74.1)), (.l .own r_74.2.length (encL r_74.2)), (.s (.int .i64 y_28)), (.s (.int .i64 0))] ∧ NoBox [(1, 1), (1, 2), (1, 3), (1, 5)] σ.mem) := ⟨_, rfl⟩
            refine loopP ({ hd := [1, 2, 3, 4, 5, 29, 30, 42, 43, 44], bx := [], ex := [1, 2, 3, 4, 5, 29, 30], rt := [2] }) I_34 X_35 h_75 (by exact rfl) ?_ ?_ ?_
            · rw [I_34_]
              exact ⟨by simp [restrict_env, h_4, h_5, h_9, q_15, q_16, q_17, q_18, q_19, q_20, q_21, q_22, h_24], by simp [restrict_env, h_4, h_5, h_9, q_15, q_16, q_17, q_18, q_19, q_20, q_21, q_22, h_24], by simp [restrict_env, h_4, h_5, h_9, q_15, q_16, q_17, q_18, q_19, q_20, q_21, q_22, h_24], by simp [restrict_env, h_4, h_5, h_9, q_15, q_16, q_17, q_18, q_19, q_20, q_21, q_22, h_24], by simp [restrict_env, h_4, h_5, h_9, q_15, q_16, q_17, q_18, q_19, q_20, q_21, q_22, h_24], by simp [restrict_env, h_4, h_5, h_9, q_15, q_16, q_17, q_18, q_19, q_20, q_21, q_22, h_24], by simp [restrict_env, h_4, h_5, h_9, q_15, q_16, q_17, q_18, q_19, q_20, q_21, q_22, h_24], by simp [restrict_env, h_4, h_5, h_9, q_15, q_16, q_17, q_18, q_19, q_20, q_21, q_22, h_24], by simp [restrict_env, h_4, h_5, h_9, q_15, q_16, q_17, q_18, q_19, q_20, q_21, q_22, h_24], by simp [restrict_env, h_4, h_5, h_9, q_15, q_16, q_17, q_18, q_19, q_20, q_21, q_22, h_24], by simp [restrict_mem, h_4, h_5, h_9, q_15, q_16, q_17, q_18, q_19, q_20, q_21, q_22, h_24], by simp [restrict_mem, h_4, h_5, h_9, q_15, q_16, q_17, q_18, q_19, q_20, q_21, q_22, h_24], by simp [restrict_mem, h_4, h_5, h_9, q_15, q_16, q_17, q_18, q_19, q_20, q_21, q_22, h_24], by simp [restrict_mem, h_4, h_5, h_9, q_15, q_16, q_17, q_18, q_19, q_20, q_21, q_22, h_24], NoBox.restrict (by intro k hk hb; simp at hk hb; simp [hk, hb, h_4, h_5, h_9, q_15, q_16, q_17, q_18, q_19, q_20, q_21, q_22, h_24, hn_23 k (by simp [hk, hb])])⟩
            · intro s_32 σ_36 a_33 hI hp
              rw [I_34_] at hI
              obtain ⟨q_37, q_38, q_39, q_40, q_41, q_42, q_43, q_44, q_45, q_46, q_47, q_48, q_49, q_50, hn_51⟩ := hI
              try simp [h_4, h_5, h_9, h_24, q_37, q_38, q_39, q_40, q_41, q_42, q_43, q_44, q_45, q_46, q_47, q_48, q_49, q_50]
              rcases cond_cases hp with ⟨h_52, hp⟩ | ⟨h_52, hp⟩
              · try simp at h_52
                obtain ⟨e_53, h_54, hp⟩ := bind_some hp
                have b_55 := at_lo h_54
                have b_56 := at_hi h_54
                try simp at b_55
                try simp at b_56
                have c_57 := seg_at' h_54 0 1 (by decide) (ds := [.sc (.int .i64 e_53)]) rfl
                try simp at c_57
                obtain ⟨y_58, h_59, hp⟩ := bind_some hp
                have c_60 := C135_eq h_59
                simp at c_60
                obtain ⟨_, h_61, hp⟩ := bind_some hp
                have b_62 := room_ok h_61
                try simp at b_62
                obtain ⟨y_63, h_64, hp⟩ := bind_some hp
                have c_65 := C156_eq h_64
                simp at c_65
                obtain ⟨y_66, h_67, hp⟩ := bind_some hp
                have c_68 := C155_eq h_67
                simp at c_68
                obtain ⟨y_69, h_70, hp⟩ := bind_some hp
                have c_71 := C135_eq h_70
                simp at c_71
                obtain ⟨_, h_72, hp⟩ := bind_some hp
                have b_73 := room_ok h_72
                try simp at b_73
                cases hp
                try simp [h_4, h_5, h_9, h_24, q_37, q_38, q_39, q_40, q_41, q_42, q_43, q_44, q_45, q_46, q_47, q_48, q_49, q_50, h_52, b_55, b_56, c_57, c_60, b_62, c_65, c_68, c_71, b_73]
                refine goal_next ?_
                rw [I_34_]
                exact ⟨by simp [restrict_env, h_4, h_5, h_9, h_24, q_37, q_38, q_39, q_40, q_41, q_42, q_43, q_44, q_45, q_46, q_47, q_48, q_49, q_50, h_52, b_55, b_56, c_57, c_60, b_62, c_65, c_68, c_71, b_73], by simp [restrict_env, h_4, h_5, h_9, h_24, q_37, q_38, q_39, q_40, q_41, q_42, q_43, q_44, q_45, q_46, q_47, q_48, q_49, q_50, h_52, b_55, b_56, c_57, c_60, b_62, c_65, c_68, c_71, b_73], by simp [restrict_env, h_4, h_5, h_9, h_24, q_37, q_38, q_39, q_40, q_41, q_42, q_43, q_44, q_45, q_46, q_47, q_48, q_49, q_50, h_52, b_55, b_56, c_57, c_60, b_62, c_65, c_68, c_71, b_73], by simp [restrict_env, h_4, h_5, h_9, h_24, q_37, q_38, q_39, q_40, q_41, q_42, q_43, q_44, q_45, q_46, q_47, q_48, q_49, q_50, h_52, b_55, b_56, c_57, c_60, b_62, c_65, c_68, c_71, b_73], by simp [restrict_env, h_4, h_5, h_9, h_24, q_37, q_38, q_39, q_40, q_41, q_42, q_43, q_44, q_45, q_46, q_47, q_48, q_49, q_50, h_52, b_55, b_56, c_57, c_60, b_62, c_65, c_68, c_71, b_73], by simp [restrict_env, h_4, h_5, h_9, h_24, q_37, q_38, q_39, q_40, q_41, q_42, q_43, q_44, q_45, q_46, q_47, q_48, q_49, q_50, h_52, b_55, b_56, c_57, c_60, b_62, c_65, c_68, c_71, b_73], by simp [restrict_env, h_4, h_5, h_9, h_24, q_37, q_38, q_39, q_40, q_41, q_42, q_43, q_44, q_45, q_46, q_47, q_48, q_49, q_50, h_52, b_55, b_56, c_57, c_60, b_62, c_65, c_68, c_71, b_73], by simp [restrict_env, h_4, h_5, h_9, h_24, q_37, q_38, q_39, q_40, q_41, q_42, q_43, q_44, q_45, q_46, q_47, q_48, q_49, q_50, h_52, b_55, b_56, c_57, c_60, b_62, c_65, c_68, c_71, b_73], by simp [restrict_env, h_4, h_5, h_9, h_24, q_37, q_38, q_39, q_40, q_41, q_42, q_43, q_44, q_45, q_46, q_47, q_48, q_49, q_50, h_52, b_55, b_56, c_57, c_60, b_62, c_65, c_68, c_71, b_73], by simp [restrict_env, h_4, h_5, h_9, h_24, q_37, q_38, q_39, q_40, q_41, q_42, q_43, q_44, q_45, q_46, q_47, q_48, q_49, q_50, h_52, b_55, b_56, c_57, c_60, b_62, c_65, c_68, c_71, b_73], by simp [restrict_mem, h_4, h_5, h_9, h_24, q_37, q_38, q_39, q_40, q_41, q_42, q_43, q_44, q_45, q_46, q_47, q_48, q_49, q_50, h_52, b_55, b_56, c_57, c_60, b_62, c_65, c_68, c_71, b_73], by simp [restrict_mem, h_4, h_5, h_9, h_24, q_37, q_38, q_39, q_40, q_41, q_42, q_43, q_44, q_45, q_46, q_47, q_48, q_49, q_50, h_52, b_55, b_56, c_57, c_60, b_62, c_65, c_68, c_71, b_73], by simp [restrict_mem, h_4, h_5, h_9, h_24, q_37, q_38, q_39, q_40, q_41, q_42, q_43, q_44, q_45, q_46, q_47, q_48, q_49, q_50, h_52, b_55, b_56, c_57, c_60, b_62, c_65, c_68, c_71, b_73], by simp [restrict_mem, h_4, h_5, h_9, h_24, q_37, q_38, q_39, q_40, q_41, q_42, q_43, q_44, q_45, q_46, q_47, q_48, q_49, q_50, h_52, b_55, b_56, c_57, c_60, b_62, c_65, c_68, c_71, b_73], NoBox.restrict (by intro k hk hb; simp at hk hb; simp [hk, hb, h_4, h_5, h_9, h_24, q_37, q_38, q_39, q_40, q_41, q_42, q_43, q_44, q_45, q_46, q_47, q_48, q_49, q_50, h_52, b_55, b_56, c_57, c_60, b_62, c_65, c_68, c_71, b_73, hn_51 k (by simp [hk, hb])])⟩
              · try simp at h_52
                cases hp
                try simp [h_4, h_5, h_9, h_24, q_37, q_38, q_39, q_40, q_41, q_42, q_43, q_44, q_45, q_46, q_47, q_48, q_49, q_50, h_52]
                refine goal_outX ?_
                rw [X_35_]
                exact ⟨_, rfl, by simp [restrict_env, h_4, h_5, h_9, h_24, q_37, q_38, q_39, q_40, q_41, q_42, q_43, q_44, q_45, q_46, q_47, q_48, q_49, q_50, h_52], by simp [restrict_env, h_4, h_5, h_9, h_24, q_37, q_38, q_39, q_40, q_41, q_42, q_43, q_44, q_45, q_46, q_47, q_48, q_49, q_50, h_52], by simp [restrict_env, h_4, h_5, h_9, h_24, q_37, q_38, q_39, q_40, q_41, q_42, q_43, q_44, q_45, q_46, q_47, q_48, q_49, q_50, h_52], by simp [restrict_env, h_4, h_5, h_9, h_24, q_37, q_38, q_39, q_40, q_41, q_42, q_43, q_44, q_45, q_46, q_47, q_48, q_49, q_50, h_52], by simp [restrict_env, h_4, h_5, h_9, h_24, q_37, q_38, q_39, q_40, q_41, q_42, q_43, q_44, q_45, q_46, q_47, q_48, q_49, q_50, h_52], by simp [restrict_env, h_4, h_5, h_9, h_24, q_37, q_38, q_39, q_40, q_41, q_42, q_43, q_44, q_45, q_46, q_47, q_48, q_49, q_50, h_52], by simp [restrict_env, h_4, h_5, h_9, h_24, q_37, q_38, q_39, q_40, q_41, q_42, q_43, q_44, q_45, q_46, q_47, q_48, q_49, q_50, h_52], by simp [restrict_mem, h_4, h_5, h_9, h_24, q_37, q_38, q_39, q_40, q_41, q_42, q_43, q_44, q_45, q_46, q_47, q_48, q_49, q_50, h_52], by simp [restrict_mem, h_4, h_5, h_9, h_24, q_37, q_38, q_39, q_40, q_41, q_42, q_43, q_44, q_45, q_46, q_47, q_48, q_49, q_50, h_52], by simp [restrict_mem, h_4, h_5, h_9, h_24, q_37, q_38, q_39, q_40, q_41, q_42, q_43, q_44, q_45, q_46, q_47, q_48, q_49, q_50, h_52], by simp [restrict_mem, h_4, h_5, h_9, h_24, q_37, q_38, q_39, q_40, q_41, q_42, q_43, q_44, q_45, q_46, q_47, q_48, q_49, q_50, h_52], NoBox.restrict (by intro k hk hb; simp at hk hb; simp [hk, hb, h_4, h_5, h_9, h_24, q_37, q_38, q_39, q_40, q_41, q_42, q_43, q_44, q_45, q_46, q_47, q_48, q_49, q_50, h_52, hn_51 k (by simp [hk, hb])])⟩
            · intro out hX
              rw [X_35_] at hX
              obtain ⟨σ_76, rfl, q_77, q_78, q_79, q_80, q_81, q_82, q_83, q_84, q_85, q_86, q_87, hn_88⟩ := hX
              obtain ⟨_, h_89, hp⟩ := bind_some hp
              have b_90 := room_ok h_89
              try simp at b_90
              try simp [h_4, h_5, h_9, h_24, q_77, q_78, q_79, q_80, q_81, q_82, q_83, q_84, q_85, q_86, q_87, b_90]
              obtain ⟨r_120, h_121, hp⟩ := bind_some hp
              obtain ⟨I_93, I_93_⟩ : ∃ I : Int × (List Int) → St → Prop, I = (fun (s_91 : Int × (List Int)) (σ : St) => σ.env 1 = .one (.ptr (1, 1) 0) ∧ σ.env 2 = .one (.ptr (1, 2) 0) ∧ σ.env 3 = .one (.ptr (1, 3) 0) ∧ σ.env 4 = .one (.s (.int .i64 s_10.1)) ∧ σ.env 29 = .one (.s (.int .i64 (h_.next.length : Int))) ∧ σ.env 30 = .one (.s (.int .i64 s_10.1)) ∧ σ.env 77 = .one (.s (.int .i64 (h_.next.length : Int))) ∧ σ.env 78 = .one (.s (.int .i64 s_91.1)) ∧ σ.mem (1, 1) = some [(.l .shr h_.vars.length (encL h_.vars)), (.l .shr h_.next.length (encL h_.next))] ∧ σ.mem (1, 2) = some [(.l .own 0 []), (.l .own 0 [])] ∧ σ.mem (1, 3) = some [(.l .own (s_10.2.1 ++ [(⟨r_74.1, r_74.2, y_28, 0⟩ : TNode)]).length (encL (s_10.2.1 ++ [(⟨r_74.1, r_74.2, y_28, 0⟩ : TNode)]))), (.l .own s_91.2.length (encL s_91.2))] ∧ σ.mem (1, 5) = some [.dead, .dead, .dead, .dead] ∧ NoBox [(1, 1), (1, 2), (1, 3), (1, 5)] σ.mem) := ⟨_, rfl⟩
              obtain ⟨X_94, X_94_⟩ : ∃ X : (List Int) → Out → Prop, X = (fun (r_120 : (List Int)) (out : Out) => ∃ σ : St, out = .exit 4 σ ∧ σ.env 1 = .one (.ptr (1, 1) 0) ∧ σ.env 2 = .one (.ptr (1, 2) 0) ∧ σ.env 3 = .one (.ptr (1, 3) 0) ∧ σ.env 29 = .one (.s (.int .i64 (h_.next.length : Int))) ∧ σ.env 30 = .one (.s (.int .i64 s_10.1)) ∧ σ.mem (1, 1) = some [(.l .shr h_.vars.length (encL h_.vars)), (.l .shr h_.next.length (encL h_.next))] ∧ σ.mem (1, 2) = some [(.l .own 0 []), (.l .own 0 [])] ∧ σ.mem (1, 3) = some [(.l .own (s_10.2.1 ++ [(⟨r_74.1, r_74.2, y_28, 0⟩ : TNode)]).length (encL (s_10.2.1 ++ [(⟨r_74.1, r_74.2, y_28, 0⟩ : TNode)]))), (.l .own r_120.length (encL r_120))] ∧ σ.mem (1, 5) = some [.dead, .dead, .dead, .dead] ∧ NoBox [(1, 1), (1, 2), (1, 3), (1, 5)] σ.mem) := ⟨_, rfl⟩
              refine loopP ({ hd := [1, 2, 3, 4, 29, 30, 77, 78], bx := [], ex := [1, 2, 3, 29, 30], rt := [2] }) I_93 X_94 h_121 (by exact rfl) ?_ ?_ ?_
              · rw [I_93_]
                exact ⟨by simp [restrict_env, h_4, h_5, h_9, h_24, q_77, q_78, q_79, q_80, q_81, q_82, q_83, q_84, q_85, q_86, q_87], by simp [restrict_env, h_4, h_5, h_9, h_24, q_77, q_78, q_79, q_80, q_81, q_82, q_83, q_84, q_85, q_86, q_87], by simp [restrict_env, h_4, h_5, h_9, h_24, q_77, q_78, q_79, q_80, q_81, q_82, q_83, q_84, q_85, q_86, q_87], by simp [restrict_env, h_4, h_5, h_9, h_24, q_77, q_78, q_79, q_80, q_81, q_82, q_83, q_84, q_85, q_86, q_87], by simp [restrict_env, h_4, h_5, h_9, h_24, q_77, q_78, q_79, q_80, q_81, q_82, q_83, q_84, q_85, q_86, q_87], by simp [restrict_env, h_4, h_5, h_9, h_24, q_77, q_78, q_79, q_80, q_81, q_82, q_83, q_84, q_85, q_86, q_87], by simp [restrict_env, h_4, h_5, h_9, h_24, q_77, q_78, q_79, q_80, q_81, q_82, q_83, q_84, q_85, q_86, q_87], by simp [restrict_env, h_4, h_5, h_9, h_24, q_77, q_78, q_79, q_80, q_81, q_82, q_83, q_84, q_85, q_86, q_87], by simp [restrict_mem, h_4, h_5, h_9, h_24, q_77, q_78, q_79, q_80, q_81, q_82, q_83, q_84, q_85, q_86, q_87], by simp [restrict_mem, h_4, h_5, h_9, h_24, q_77, q_78, q_79, q_80, q_81, q_82, q_83, q_84, q_85, q_86, q_87], by simp [restrict_mem, h_4, h_5, h_9, h_24, q_77, q_78, q_79, q_80, q_81, q_82, q_83, q_84, q_85, q_86, q_87], by simp [restrict_mem, h_4, h_5, h_9, h_24, q_77, q_78, q_79, q_80, q_81, q_82, q_83, q_84, q_85, q_86, q_87], NoBox.restrict (by intro k hk hb; simp at hk hb; simp [hk, hb, h_4, h_5, h_9, h_24, q_77, q_78, q_79, q_80, q_81, q_82, q_83, q_84, q_85, q_86, q_87, hn_88 k (by simp [hk, hb])])⟩
              · intro s_91 σ_95 a_92 hI hp
                rw [I_93_] at hI
                obtain ⟨q_96, q_97, q_98, q_99, q_100, q_101, q_102, q_103, q_104, q_105, q_106, q_107, hn_108⟩ := hI
                try simp [h_4, h_5, h_9, h_24, q_96, q_97, q_98, q_99, q_100, q_101, q_102, q_103, q_104, q_105, q_106, q_107]
                rcases cond_cases hp with ⟨h_109, hp⟩ | ⟨h_109, hp⟩
                · try simp at h_109
                  obtain ⟨e_110, h_111, hp⟩ := bind_some hp
                  have b_112 := at_lo h_111
                  have b_113 := at_hi h_111
                  try simp at b_112
                  try simp at b_113
                  have c_114 := seg_at' h_111 0 1 (by decide) (ds := [.sc (.int .i64 e_110)]) rfl
                  try simp at c_114
                  obtain ⟨y_115, h_116, hp⟩ := bind_some hp
                  have c_117 := C135_eq h_116
                  simp at c_117
                  obtain ⟨_, h_118, hp⟩ := bind_some hp
                  have b_119 := room_ok h_118
                  try simp at b_119
                  cases hp
                  try simp [h_4, h_5, h_9, h_24, q_96, q_97, q_98, q_99, q_100, q_101, q_102, q_103, q_104, q_105, q_106, q_107, h_109, b_112, b_113, c_114, c_117, b_119]
                  refine goal_next ?_
                  rw [I_93_]
                  exact ⟨by simp [restrict_env, h_4, h_5, h_9, h_24, q_96, q_97, q_98, q_99, q_100, q_101, q_102, q_103, q_104, q_105, q_106, q_107, h_109, b_112, b_113, c_114, c_117, b_119], by simp [restrict_env, h_4, h_5, h_9, h_24, q_96, q_97, q_98, q_99, q_100, q_101, q_102, q_103, q_104, q_105, q_106, q_107, h_109, b_112, b_113, c_114, c_117, b_119], by simp [restrict_env, h_4, h_5, h_9, h_24, q_96, q_97, q_98, q_99, q_100, q_101, q_102, q_103, q_104, q_105, q_106, q_107, h_109, b_112, b_113, c_114, c_117, b_119], by simp [restrict_env, h_4, h_5, h_9, h_24, q_96, q_97, q_98, q_99, q_100, q_101, q_102, q_103, q_104, q_105, q_106, q_107, h_109, b_112, b_113, c_114, c_117, b_119], by simp [restrict_env, h_4, h_5, h_9, h_24, q_96, q_97, q_98, q_99, q_100, q_101, q_102, q_103, q_104, q_105, q_106, q_107, h_109, b_112, b_113, c_114, c_117, b_119], by simp [restrict_env, h_4, h_5, h_9, h_24, q_96, q_97, q_98, q_99, q_100, q_101, q_102, q_103, q_104, q_105, q_106, q_107, h_109, b_112, b_113, c_114, c_117, b_119], by simp [restrict_env, h_4, h_5, h_9, h_24, q_96, q_97, q_98, q_99, q_100, q_101, q_102, q_103, q_104, q_105, q_106, q_107, h_109, b_112, b_113, c_114, c_117, b_119], by simp [restrict_env, h_4, h_5, h_9, h_24, q_96, q_97, q_98, q_99, q_100, q_101, q_102, q_103, q_104, q_105, q_106, q_107, h_109, b_112, b_113, c_114, c_117, b_119], by simp [restrict_mem, h_4, h_5, h_9, h_24, q_96, q_97, q_98, q_99, q_100, q_101, q_102, q_103, q_104, q_105, q_106, q_107, h_109, b_112, b_113, c_114, c_117, b_119], by simp [restrict_mem, h_4, h_5, h_9, h_24, q_96, q_97, q_98, q_99, q_100, q_101, q_102, q_103, q_104, q_105, q_106, q_107, h_109, b_112, b_113, c_114, c_117, b_119], by simp [restrict_mem, h_4, h_5, h_9, h_24, q_96, q_97, q_98, q_99, q_100, q_101, q_102, q_103, q_104, q_105, q_106, q_107, h_109, b_112, b_113, c_114, c_117, b_119], by simp [restrict_mem, h_4, h_5, h_9, h_24, q_96, q_97, q_98, q_99, q_100, q_101, q_102, q_103, q_104, q_105, q_106, q_107, h_109, b_112, b_113, c_114, c_117, b_119], NoBox.restrict (by intro k hk hb; simp at hk hb; simp [hk, hb, h_4, h_5, h_9, h_24, q_96, q_97, q_98, q_99, q_100, q_101, q_102, q_103, q_104, q_105, q_106, q_107, h_109, b_112, b_113, c_114, c_117, b_119, hn_108 k (by simp [hk, hb])])⟩
                · try simp at h_109
                  cases hp
                  try simp [h_4, h_5, h_9, h_24, q_96, q_97, q_98, q_99, q_100, q_101, q_102, q_103, q_104, q_105, q_106, q_107, h_109]
                  refine goal_outX ?_
                  rw [X_94_]
                  exact ⟨_, rfl, by simp [restrict_env, h_4, h_5, h_9, h_24, q_96, q_97, q_98, q_99, q_100, q_101, q_102, q_103, q_104, q_105, q_106, q_107, h_109], by simp [restrict_env, h_4, h_5, h_9, h_24, q_96, q_97, q_98, q_99, q_100, q_101, q_102, q_103, q_104, q_105, q_106, q_107, h_109], by simp [restrict_env, h_4, h_5, h_9, h_24, q_96, q_97, q_98, q_99, q_100, q_101, q_102, q_103, q_104, q_105, q_106, q_107, h_109], by simp [restrict_env, h_4, h_5, h_9, h_24, q_96, q_97, q_98, q_99, q_100, q_101, q_102, q_103, q_104, q_105, q_106, q_107, h_109], by simp [restrict_env, h_4, h_5, h_9, h_24, q_96, q_97, q_98, q_99, q_100, q_101, q_102, q_103, q_104, q_105, q_106, q_107, h_109], by simp [restrict_mem, h_4, h_5, h_9, h_24, q_96, q_97, q_98, q_99, q_100, q_101, q_102, q_103, q_104, q_105, q_106, q_107, h_109], by simp [restrict_mem, h_4, h_5, h_9, h_24, q_96, q_97, q_98, q_99, q_100, q_101, q_102, q_103, q_104, q_105, q_106, q_107, h_109], by simp [restrict_mem, h_4, h_5, h_9, h_24, q_96, q_97, q_98, q_99, q_100, q_101, q_102, q_103, q_104, q_105, q_106, q_107, h_109], by simp [restrict_mem, h_4, h_5, h_9, h_24, q_96, q_97, q_98, q_99, q_100, q_101, q_102, q_103, q_104, q_105, q_106, q_107, h_109], NoBox.restrict (by intro k hk hb; simp at hk hb; simp [hk, hb, h_4, h_5, h_9, h_24, q_96, q_97, q_98, q_99, q_100, q_101, q_102, q_103, q_104, q_105, q_106, q_107, h_109, hn_108 k (by simp [hk, hb])])⟩
              · intro out hX
                rw [X_94_] at hX
                obtain ⟨σ_122, rfl, q_123, q_124, q_125, q_126, q_127, q_128, q_129, q_130, q_131, hn_132⟩ := hX
                cases hp
                try simp [h_4, h_5, h_9, h_24, q_123, q_124, q_125, q_126, q_127, q_128, q_129, q_130, q_131]
                refine goal_next ?_
                rw [I_12_]
                exact ⟨by simp [restrict_env, h_4, h_5, h_9, h_24, q_123, q_124, q_125, q_126, q_127, q_128, q_129, q_130, q_131], by simp [restrict_env, h_4, h_5, h_9, h_24, q_123, q_124, q_125, q_126, q_127, q_128, q_129, q_130, q_131], by simp [restrict_env, h_4, h_5, h_9, h_24, q_123, q_124, q_125, q_126, q_127, q_128, q_129, q_130, q_131], by simp [restrict_env, h_4, h_5, h_9, h_24, q_123, q_124, q_125, q_126, q_127, q_128, q_129, q_130, q_131], by simp [restrict_env, h_4, h_5, h_9, h_24, q_123, q_124, q_125, q_126, q_127, q_128, q_129, q_130, q_131], by simp [restrict_mem, h_4, h_5, h_9, h_24, q_123, q_124, q_125, q_126, q_127, q_128, q_129, q_130, q_131], by simp [restrict_mem, h_4, h_5, h_9, h_24, q_123, q_124, q_125, q_126, q_127, q_128, q_129, q_130, q_131], by simp [restrict_mem, h_4, h_5, h_9, h_24, q_123, q_124, q_125, q_126, q_127, q_128, q_129, q_130, q_131], NoBox.restrict (by intro k hk hb; simp at hk hb; simp [hk, hb, h_4, h_5, h_9, h_24, q_123, q_124, q_125, q_126, q_127, q_128, q_129, q_130, q_131, hn_132 k (by simp [hk, hb])])⟩
          · try simp at h_24
            cases hp
            try simp [h_4, h_5, h_9, q_15, q_16, q_17, q_18, q_19, q_20, q_21, q_22, h_24]
            refine goal_outX ?_
            rw [X_13_]
            exact ⟨_, rfl, by simp [restrict_env, h_4, h_5, h_9, q_15, q_16, q_17, q_18, q_19, q_20, q_21, q_22, h_24], by simp [restrict_env, h_4, h_5, h_9, q_15, q_16, q_17, q_18, q_19, q_20, q_21, q_22, h_24], by simp [restrict_mem, h_4, h_5, h_9, q_15, q_16, q_17, q_18, q_19, q_20, q_21, q_22, h_24], by simp [restrict_mem, h_4, h_5, h_9, q_15, q_16, q_17, q_18, q_19, q_20, q_21, q_22, h_24], by simp [restrict_mem, h_4, h_5, h_9, q_15, q_16, q_17, q_18, q_19, q_20, q_21, q_22, h_24], NoBox.restrict (by intro k hk hb; simp at hk hb; simp [hk, hb, h_4, h_5, h_9, q_15, q_16, q_17, q_18, q_19, q_20, q_21, q_22, h_24, hn_23 k (by simp [hk, hb])])⟩
        · intro out hX
          rw [X_13_] at hX
          obtain ⟨σ_135, rfl, q_136, q_137, q_138, q_139, q_140, hn_141⟩ := hX
          cases hp
          simp [Goal, FnEnd, retR, rsrc, RSrc.val, nodupR, nodup, tupPart, h_4, h_5, h_9, q_136, q_137, q_138, q_139, q_140]
      · try simp at h_9
        cases hp
        simp [Goal, FnEnd, retR, rsrc, RSrc.val, nodupR, nodup, tupPart, h_4, h_5, h_9]
  · try simp at h_4
    cases hp
    simp [Goal, FnEnd, retR, rsrc, RSrc.val, nodupR, nodup, tupPart, h_4]
theorem pc162 : PC Try.prog 162 C162 := pc_of (g := g162) (ctxOK_of [(49, C49), (107, C107), (135, C135), (155, C155), (156, C156), (178, C178)] rfl ⟨pc49, pc107, pc135, pc155, pc156, pc178, trivial⟩) ⟨Try.f162, Try.func162, by kernel_rfl, by kernel_rfl⟩ fun x y h => w162 h
end Go.Proofs
