import Derived.Test.YtahcfnjgllpkdaaEvA11
set_option linter.unusedSimpArgs false
set_option linter.unusedVariables false
set_option linter.unnecessarySimpa false
namespace Go.Proofs
open Go.Ev
noncomputable def C45 : List AV → Option AV := specP (X := Int × Int × Int × Unit) fun x => spec_l1In x.1 x.2.1 x.2.2.1
theorem C45_eq {x_ lo hi} {y} (h : spec_l1In x_ lo hi = some y) : C45 [av .shr x_, av .shr lo, av .shr hi] = some (Res.res y) := specP_eq (X := Int × Int × Int × Unit) (F := fun x => spec_l1In x.1 x.2.1 x.2.2.1) (x := (x_, lo, hi, ())) h
noncomputable def g45 : Cfg := { P := Try.prog, take := [], keep := [], gho := [], ctx := [] }
@[simp] theorem g45_P : g45.P = Try.prog := rfl
@[simp] theorem g45_t : g45.take = [] := rfl
@[simp] theorem g45_g : g45.gho = [] := rfl
set_option maxHeartbeats 4000000 in
set_option maxRecDepth 100000 in
theorem w45 {x_ lo hi} {y} (hp : spec_l1In x_ lo hi = some y) : ∃ m, callo g45 0 45 [av .shr x_, av .shr lo, av .shr hi] mem0 = some (Res.res y, m) := by
  refine start_fn (Try.f45.body.getD .skip) [.tmp 6] rfl rfl Try.func45 (by kernel_rfl) (by kernel_rfl) (by simp [Try.ntmps45]) rfl ?_
  unfold spec_l1In at hp
  simp [Try.f45]
  rcases cond_cases hp with ⟨h_1, hp⟩ | ⟨h_1, hp⟩
  · try simp at h_1
    cases hp
    simp [Goal, FnEnd, h_1]
  · try simp at h_1
    cases hp
    simp [Goal, FnEnd, h_1]
theorem pc45 : PC Try.prog 45 C45 := pc_of (g := g45) (fun f F h => by cases h) ⟨Try.f45, Try.func45, by kernel_rfl, by kernel_rfl⟩ fun x y h => w45 h

abbrev G46 (g : Cfg) : Prop := Has Try.prog g 46 Try.f46 [29, 39] [(9, { hd := [1, 5, 6, 7, 8], bx := [], ex := [1, 5, 6, 7], rt := [4] }), (6, { hd := [1, 5, 6, 7], bx := [], ex := [5], rt := [4] })] [] []
set_option maxHeartbeats 4000000 in
set_option maxRecDepth 100000 in
theorem wI46 {g : Cfg} (G : G46 g) (fu : Nat) : ∀ {d : Nat} {mem : Mem} (hT : Tight d mem)  {n_ : Int} {most : Int}  {y} (hp : fixN R_spec_l9Lists fu (n_, most, ()) = some y), callo g d 46 [av .shr n_, av .shr most] mem = some (Res.res y, mem) := by
  have gP := G.P; have gt := G.tk; have gg := G.gh
  have i_46 := G.no
  have k_9 := G.kp (9, { hd := [1, 5, 6, 7, 8], bx := [], ex := [1, 5, 6, 7], rt := [4] }) (by simp)
  have k_6 := G.kp (6, { hd := [1, 5, 6, 7], bx := [], ex := [5], rt := [4] }) (by simp)
  induction fu with
  | zero => intros; exact absurd ‹fixN _ 0 _ = some _› (by simp [fixN])
  | succ fu ih =>
    intro d mem hT n_ most y hp
    have hT2 : memKill (fun k => decide (d < k.1)) mem = mem := hT
    refine start_in (Try.f46.body.getD .skip) [.tmp 4] G Try.func46 (by kernel_rfl) (by simp [Try.ntmps46]) rfl ?_
    replace hp : B_spec_l9Lists (fun n_ most => fixN R_spec_l9Lists fu (n_, most, ())) n_ most = some y := hp
    unfold B_spec_l9Lists at hp
    simp [Try.f46, gP, gt, gg, i_46]
    rcases cond_cases hp with ⟨h_1, hp⟩ | ⟨h_1, hp⟩
    · try simp at h_1
      cases hp
      simp [Goal, FnEndI, memKill_hi, gP, gt, gg, i_46, h_1, hT2]
    · try simp at h_1
      obtain ⟨y_2, h_3, hp⟩ := bind_some hp
      try simp [gP, gt, gg, i_46, h_1]
      refine goal_call [av .shr (subI n_ 1), av .shr most] (Res.res y_2) (by simp [gP, gt, gg, i_46, h_1]) (ih (by repeat (first | exact tight_mem0 _ | exact hT.up | exact hT | (simp only [true_and]; done) | refine Tight.upd ?_ (by simp) (by simp))) h_3) ?_
      try simp [gP, gt, gg, i_46, h_1]
      obtain ⟨r_44, h_45, hp⟩ := bind_some hp
      obtain ⟨I_6, I_6_⟩ : ∃ I : (List (List Int)) × Int → St → Prop, I = (fun (s_4 : (List (List Int)) × Int) (σ : St) => σ.env 1 = .one (.s (.int .i64 most)) ∧ σ.env 5 = .one (.l .own s_4.1.length (encL s_4.1)) ∧ σ.env 6 = .one (.l .own y_2.length (encL y_2)) ∧ σ.env 7 = .one (.s (.int .i64 s_4.2)) ∧ σ.mem = mem) := ⟨_, rfl⟩
      obtain ⟨X_7, X_7_⟩ : ∃ X : (List (List Int)) → Out → Prop, X = (fun (r_44 : (List (List Int))) (out : Out) => ∃ σ : St, out = .exit 0 σ ∧ σ.env 5 = .one (.l .own r_44.length (encL r_44)) ∧ σ.mem = mem) := ⟨_, rfl⟩
      refine loopP ({ hd := [1, 5, 6, 7], bx := [], ex := [5], rt := [4] }) I_6 X_7 h_45 (by exact k_6) ?_ ?_ ?_
      · rw [I_6_]
        exact ⟨by simp [restrict_env, gP, gt, gg, i_46, h_1], by simp [restrict_env, gP, gt, gg, i_46, h_1], by simp [restrict_env, gP, gt, gg, i_46, h_1], by simp [restrict_env, gP, gt, gg, i_46, h_1], by simp [restrict_mem, gP, gt, gg, i_46, h_1]⟩
      · intro s_4 σ_8 a_5 hI hp
        rw [I_6_] at hI
        obtain ⟨q_9, q_10, q_11, q_12, q_13⟩ := hI
        try simp [gP, gt, gg, i_46, h_1, q_9, q_10, q_11, q_12, q_13]
        rcases cond_cases hp with ⟨h_14, hp⟩ | ⟨h_14, hp⟩
        · try simp at h_14
          try simp [gP, gt, gg, i_46, h_1, q_9, q_10, q_11, q_12, q_13, h_14]
          obtain ⟨r_36, h_37, hp⟩ := bind_some hp
          obtain ⟨I_17, I_17_⟩ : ∃ I : (List (List Int)) × Int → St → Prop, I = (fun (s_15 : (List (List Int)) × Int) (σ : St) => σ.env 1 = .one (.s (.int .i64 most)) ∧ σ.env 5 = .one (.l .own s_15.1.length (encL s_15.1)) ∧ σ.env 6 = .one (.l .own y_2.length (encL y_2)) ∧ σ.env 7 = .one (.s (.int .i64 s_4.2)) ∧ σ.env 8 = .one (.s (.int .i64 s_15.2)) ∧ σ.mem = mem) := ⟨_, rfl⟩
          obtain ⟨X_18, X_18_⟩ : ∃ X : (List (List Int)) → Out → Prop, X = (fun (r_36 : (List (List Int))) (out : Out) => ∃ σ : St, out = .exit 2 σ ∧ σ.env 1 = .one (.s (.int .i64 most)) ∧ σ.env 5 = .one (.l .own r_36.length (encL r_36)) ∧ σ.env 6 = .one (.l .own y_2.length (encL y_2)) ∧ σ.env 7 = .one (.s (.int .i64 s_4.2)) ∧ σ.mem = mem) := ⟨_, rfl⟩
          refine loopP ({ hd := [1, 5, 6, 7, 8], bx := [], ex := [1, 5, 6, 7], rt := [4] }) I_17 X_18 h_37 (by exact k_9) ?_ ?_ ?_
          · rw [I_17_]
            exact ⟨by simp [restrict_env, gP, gt, gg, i_46, h_1, q_9, q_10, q_11, q_12, q_13, h_14], by simp [restrict_env, gP, gt, gg, i_46, h_1, q_9, q_10, q_11, q_12, q_13, h_14], by simp [restrict_env, gP, gt, gg, i_46, h_1, q_9, q_10, q_11, q_12, q_13, h_14], by simp [restrict_env, gP, gt, gg, i_46, h_1, q_9, q_10, q_11, q_12, q_13, h_14], by simp [restrict_env, gP, gt, gg, i_46, h_1, q_9, q_10, q_11, q_12, q_13, h_14], by simp [restrict_mem, gP, gt, gg, i_46, h_1, q_9, q_10, q_11, q_12, q_13, h_14]⟩
          · intro s_15 σ_19 a_16 hI hp
            rw [I_17_] at hI
            obtain ⟨q_20, q_21, q_22, q_23, q_24, q_25⟩ := hI
            try simp [gP, gt, gg, i_46, h_1, h_14, q_20, q_21, q_22, q_23, q_24, q_25]
            rcases cond_cases hp with ⟨h_26, hp⟩ | ⟨h_26, hp⟩
            · try simp at h_26
              obtain ⟨e_27, h_28, hp⟩ := bind_some hp
              have b_29 := at_lo h_28
              have b_30 := at_hi h_28
              try simp at b_29
              try simp at b_30
              have c_31 := seg_at' h_28 0 1 (by decide) (ds := [.sl e_27.length (encL e_27)]) rfl
              try simp at c_31
              obtain ⟨_, h_32, hp⟩ := bind_some hp
              have b_33 := room_ok h_32
              try simp at b_33
              obtain ⟨_, h_34, hp⟩ := bind_some hp
              have b_35 := room_ok h_34
              try simp at b_35
              cases hp
              try simp [gP, gt, gg, i_46, h_1, h_14, q_20, q_21, q_22, q_23, q_24, q_25, h_26, b_29, b_30, c_31, b_33, b_35]
              refine goal_next ?_
              rw [I_17_]
              exact ⟨by simp [restrict_env, gP, gt, gg, i_46, h_1, h_14, q_20, q_21, q_22, q_23, q_24, q_25, h_26, b_29, b_30, c_31, b_33, b_35], by simp [restrict_env, gP, gt, gg, i_46, h_1, h_14, q_20, q_21, q_22, q_23, q_24, q_25, h_26, b_29, b_30, c_31, b_33, b_35], by simp [restrict_env, gP, gt, gg, i_46, h_1, h_14, q_20, q_21, q_22, q_23, q_24, q_25, h_26, b_29, b_30, c_31, b_33, b_35], by simp [restrict_env, gP, gt, gg, i_46, h_1, h_14, q_20, q_21, q_22, q_23, q_24, q_25, h_26, b_29, b_30, c_31, b_33, b_35], by simp [restrict_env, gP, gt, gg, i_46, h_1, h_14, q_20, q_21, q_22, q_23, q_24, q_25, h_26, b_29, b_30, c_31, b_33, b_35], by simp [restrict_mem, gP, gt, gg, i_46, h_1, h_14, q_20, q_21, q_22, q_23, q_24, q_25, h_26, b_29, b_30, c_31, b_33, b_35]⟩
            · try simp at h_26
              cases hp
              try simp [gP, gt, gg, i_46, h_1, h_14, q_20, q_21, q_22, q_23, q_24, q_25, h_26]
              refine goal_outX ?_
              rw [X_18_]
              exact ⟨_, rfl, by simp [restrict_env, gP, gt, gg, i_46, h_1, h_14, q_20, q_21, q_22, q_23, q_24, q_25, h_26], by simp [restrict_env, gP, gt, gg, i_46, h_1, h_14, q_20, q_21, q_22, q_23, q_24, q_25, h_26], by simp [restrict_env, gP, gt, gg, i_46, h_1, h_14, q_20, q_21, q_22, q_23, q_24, q_25, h_26], by simp [restrict_env, gP, gt, gg, i_46, h_1, h_14, q_20, q_21, q_22, q_23, q_24, q_25, h_26], by simp [restrict_mem, gP, gt, gg, i_46, h_1, h_14, q_20, q_21, q_22, q_23, q_24, q_25, h_26]⟩
          · intro out hX
            rw [X_18_] at hX
            obtain ⟨σ_38, rfl, q_39, q_40, q_41, q_42, q_43⟩ := hX
            cases hp
            try simp [gP, gt, gg, i_46, h_1, h_14, q_39, q_40, q_41, q_42, q_43]
            refine goal_next ?_
            rw [I_6_]
            exact ⟨by simp [restrict_env, gP, gt, gg, i_46, h_1, h_14, q_39, q_40, q_41, q_42, q_43], by simp [restrict_env, gP, gt, gg, i_46, h_1, h_14, q_39, q_40, q_41, q_42, q_43], by simp [restrict_env, gP, gt, gg, i_46, h_1, h_14, q_39, q_40, q_41, q_42, q_43], by simp [restrict_env, gP, gt, gg, i_46, h_1, h_14, q_39, q_40, q_41, q_42, q_43], by simp [restrict_mem, gP, gt, gg, i_46, h_1, h_14, q_39, q_40, q_41, q_42, q_43]⟩
        · try simp at h_14
          cases hp
          try simp [gP, gt, gg, i_46, h_1, q_9, q_10, q_11, q_12, q_13, h_14]
          refine goal_outX ?_
          rw [X_7_]
          exact ⟨_, rfl, by simp [restrict_env, gP, gt, gg, i_46, h_1, q_9, q_10, q_11, q_12, q_13, h_14], by simp [restrict_mem, gP, gt, gg, i_46, h_1, q_9, q_10, q_11, q_12, q_13, h_14]⟩
      · intro out hX
        rw [X_7_] at hX
        obtain ⟨σ_46, rfl, q_47, q_48⟩ := hX
        cases hp
        simp [Goal, FnEndI, memKill_hi, gP, gt, gg, i_46, h_1, q_47, q_48, hT2]

noncomputable def C46 : List AV → Option AV := specP (X := Int × Int × Unit) fun x => spec_l9Lists x.1 x.2.1
theorem C46_eq {n_ most} {y} (h : spec_l9Lists n_ most = some y) : C46 [av .shr n_, av .shr most] = some (Res.res y) := specP_eq (X := Int × Int × Unit) (F := fun x => spec_l9Lists x.1 x.2.1) (x := (n_, most, ())) h
noncomputable def g46 : Cfg := { P := Try.prog, take := [(46, 29), (46, 39)], keep := [((46, 6), { hd := [1, 5, 6, 7], bx := [], ex := [5], rt := [4] }), ((46, 9), { hd := [1, 5, 6, 7, 8], bx := [], ex := [1, 5, 6, 7], rt := [4] })], gho := [], ctx := [] }
@[simp] theorem g46_P : g46.P = Try.prog := rfl
@[simp] theorem g46_t : g46.take = [(46, 29), (46, 39)] := rfl
@[simp] theorem g46_g : g46.gho = [] := rfl
theorem w46 {n_ most} {y} (hp : spec_l9Lists n_ most = some y) : ∃ m, callo g46 0 46 [av .shr n_, av .shr most] mem0 = some (Res.res y, m) := by
  have G_46 : G46 g46 := ⟨rfl, by kernel_rfl, rfl, fun t => by simp, fun i => by simp [lookK], by simp [g46, lookK], by simp⟩
  exact ⟨_, wI46 G_46 _ (tight_mem0 0)  (fixO_some hp).choose_spec⟩
theorem pc46 : PC Try.prog 46 C46 := pc_of (g := g46) (fun f F h => by cases h) ⟨Try.f46, Try.func46, by kernel_rfl, by kernel_rfl⟩ fun x y h => w46 h

noncomputable def C103 : List AV → Option AV := specP (X := THeap × Unit) fun x => spec_l7Cells x.1
theorem C103_eq {h_} {y} (h : spec_l7Cells h_ = some y) : C103 [av .shr h_] = some (Res.res y) := specP_eq (X := THeap × Unit) (F := fun x => spec_l7Cells x.1) (x := (h_, ())) h
noncomputable def g103 : Cfg := { P := Try.prog, take := [], keep := [((103, 2), { hd := [1, 3], bx := [], ex := [1], rt := [2] }), ((103, 7), { hd := [1, 4], bx := [], ex := [], rt := [2] })], gho := [], ctx := [(45, C45)] }
@[simp] theorem g103_P : g103.P = Try.prog := rfl
@[simp] theorem g103_t : g103.take = [] := rfl
@[simp] theorem g103_g : g103.gho = [] := rfl
@[simp] theorem g103_45 : lookN 45 g103.ctx = some C45 := rfl
set_option maxHeartbeats 4000000 in
set_option maxRecDepth 100000 in
theorem w103 {h_} {y} (hp : spec_l7Cells h_ = some y) : ∃ m, callo g103 0 103 [av .shr h_] mem0 = some (Res.res y, m) := by
  refine start_fn (Try.f103.body.getD .skip) [.tmp 2] rfl rfl Try.func103 (by kernel_rfl) (by kernel_rfl) (by simp [Try.ntmps103]) rfl ?_
  unfold spec_l7Cells at hp
  simp [Try.f103]
  obtain ⟨r_20, h_21, hp⟩ := bind_some hp
  obtain ⟨I_3, I_3_⟩ : ∃ I : Int → St → Prop, I = (fun (s_1 : Int) (σ : St) => σ.env 1 = .one (.ptr (1, 1) 0) ∧ σ.env 3 = .one (.s (.int .i64 s_1)) ∧ σ.mem (1, 1) = some [(.l .shr h_.vars.length (encL h_.vars)), (.l .shr h_.next.length (encL h_.next))] ∧ NoBox [(1, 1)] σ.mem) := ⟨_, rfl⟩
  obtain ⟨X_4, X_4_⟩ : ∃ X : ((Unit) ⊕ (Unit)) → Out → Prop, X = (fun (r_20 : (Unit) ⊕ (Unit)) (out : Out) => Sum.elim (fun r_20 => ∃ σ : St, out = .ret σ ∧ σ.env 2 = .one (.s (.bool false)) ∧ σ.mem (1, 1) = some [(.l .shr h_.vars.length (encL h_.vars)), (.l .shr h_.next.length (encL h_.next))] ∧ NoBox [(1, 1)] σ.mem) (fun r_20 => ∃ σ : St, out = .exit 0 σ ∧ σ.env 1 = .one (.ptr (1, 1) 0) ∧ σ.mem (1, 1) = some [(.l .shr h_.vars.length (encL h_.vars)), (.l .shr h_.next.length (encL h_.next))] ∧ NoBox [(1, 1)] σ.mem) r_20) := ⟨_, rfl⟩
  refine loopP ({ hd := [1, 3], bx := [], ex := [1], rt := [2] }) I_3 X_4 h_21 (by exact rfl) ?_ ?_ ?_
  · rw [I_3_]
    exact ⟨by simp [restrict_env], by simp [restrict_env], by simp [restrict_mem], NoBox.restrict (by intro k hk hb; simp at hk hb; simp [hk, hb])⟩
  · intro s_1 σ_5 a_2 hI hp
    rw [I_3_] at hI
    obtain ⟨q_6, q_7, q_8, hn_9⟩ := hI
    try simp [q_6, q_7, q_8]
    rcases cond_cases hp with ⟨h_10, hp⟩ | ⟨h_10, hp⟩
    · try simp at h_10
      obtain ⟨e_11, h_12, hp⟩ := bind_some hp
      have b_13 := at_lo h_12
      have b_14 := at_hi h_12
      try simp at b_13
      try simp at b_14
      have c_15 := seg_at' h_12 0 1 (by decide) (ds := [.sc (.int .i64 e_11)]) rfl
      try simp at c_15
      obtain ⟨y_16, h_17, hp⟩ := bind_some hp
      have c_18 := C45_eq h_17
      simp at c_18
      try simp [q_6, q_7, q_8, h_10, b_13, b_14, c_15, c_18]
      rcases cond_cases hp with ⟨h_19, hp⟩ | ⟨h_19, hp⟩
      · try simp at h_19
        cases hp
        try simp [q_6, q_7, q_8, h_10, h_19]
        refine goal_next ?_
        rw [I_3_]
        exact ⟨by simp [restrict_env, q_6, q_7, q_8, h_10, h_19], by simp [restrict_env, q_6, q_7, q_8, h_10, h_19], by simp [restrict_mem, q_6, q_7, q_8, h_10, h_19], NoBox.restrict (by intro k hk hb; simp at hk hb; simp [hk, hb, q_6, q_7, q_8, h_10, h_19, hn_9 k (by simp [hk, hb])])⟩
      · try simp at h_19
        cases hp
        try simp [q_6, q_7, q_8, h_10, h_19]
        refine goal_outR ?_
        rw [X_4_]
        exact ⟨_, rfl, by simp [restrict_env, q_6, q_7, q_8, h_10, h_19], by simp [restrict_mem, q_6, q_7, q_8, h_10, h_19], NoBox.restrict (by intro k hk hb; simp at hk hb; simp [hk, hb, q_6, q_7, q_8, h_10, h_19, hn_9 k (by simp [hk, hb])])⟩
    · try simp at h_10
      cases hp
      try simp [q_6, q_7, q_8, h_10]
      refine goal_outX ?_
      rw [X_4_]
      exact ⟨_, rfl, by simp [restrict_env, q_6, q_7, q_8, h_10], by simp [restrict_mem, q_6, q_7, q_8, h_10], NoBox.restrict (by intro k hk hb; simp at hk hb; simp [hk, hb, q_6, q_7, q_8, h_10, hn_9 k (by simp [hk, hb])])⟩
  · intro out hX
    rw [X_4_] at hX
    rcases r_20 with r_20 | r_20
    · simp only [Sum.elim_inl, Sum.elim_inr] at hX hp
      obtain ⟨σ_22, rfl, q_23, q_24, hn_25⟩ := hX
      cases hp
      simp [Goal, FnEnd, q_23, q_24]
    · simp only [Sum.elim_inl, Sum.elim_inr] at hX hp
      obtain ⟨σ_26, rfl, q_27, q_28, hn_29⟩ := hX
      try simp [q_27, q_28]
      obtain ⟨r_49, h_50, hp⟩ := bind_some hp
      obtain ⟨I_32, I_32_⟩ : ∃ I : Int → St → Prop, I = (fun (s_30 : Int) (σ : St) => σ.env 1 = .one (.ptr (1, 1) 0) ∧ σ.env 4 = .one (.s (.int .i64 s_30)) ∧ σ.mem (1, 1) = some [(.l .shr h_.vars.length (encL h_.vars)), (.l .shr h_.next.length (encL h_.next))] ∧ NoBox [(1, 1)] σ.mem) := ⟨_, rfl⟩
      obtain ⟨X_33, X_33_⟩ : ∃ X : ((Bool) ⊕ (Unit)) → Out → Prop, X = (fun (r_49 : (Bool) ⊕ (Unit)) (out : Out) => Sum.elim (fun r_49 => ∃ σ : St, out = .ret σ ∧ σ.env 2 = .one (.s (.bool r_49)) ∧ σ.mem (1, 1) = some [(.l .shr h_.vars.length (encL h_.vars)), (.l .shr h_.next.length (encL h_.next))] ∧ NoBox [(1, 1)] σ.mem) (fun r_49 => ∃ σ : St, out = .exit 2 σ ∧ σ.mem (1, 1) = some [(.l .shr h_.vars.length (encL h_.vars)), (.l .shr h_.next.length (encL h_.next))] ∧ NoBox [(1, 1)] σ.mem) r_49) := ⟨_, rfl⟩
      refine loopP ({ hd := [1, 4], bx := [], ex := [], rt := [2] }) I_32 X_33 h_50 (by exact rfl) ?_ ?_ ?_
      · rw [I_32_]
        exact ⟨by simp [restrict_env, q_27, q_28], by simp [restrict_env, q_27, q_28], by simp [restrict_mem, q_27, q_28], NoBox.restrict (by intro k hk hb; simp at hk hb; simp [hk, hb, q_27, q_28, hn_29 k (by simp [hk, hb])])⟩
      · intro s_30 σ_34 a_31 hI hp
        rw [I_32_] at hI
        obtain ⟨q_35, q_36, q_37, hn_38⟩ := hI
        try simp [q_35, q_36, q_37]
        rcases cond_cases hp with ⟨h_39, hp⟩ | ⟨h_39, hp⟩
        · try simp at h_39
          obtain ⟨e_40, h_41, hp⟩ := bind_some hp
          have b_42 := at_lo h_41
          have b_43 := at_hi h_41
          try simp at b_42
          try simp at b_43
          have c_44 := seg_at' h_41 0 1 (by decide) (ds := [.sc (.int .i64 e_40)]) rfl
          try simp at c_44
          obtain ⟨y_45, h_46, hp⟩ := bind_some hp
          have c_47 := C45_eq h_46
          simp at c_47
          try simp [q_35, q_36, q_37, h_39, b_42, b_43, c_44, c_47]
          rcases cond_cases hp with ⟨h_48, hp⟩ | ⟨h_48, hp⟩
          · try simp at h_48
            cases hp
            try simp [q_35, q_36, q_37, h_39, h_48]
            refine goal_next ?_
            rw [I_32_]
            exact ⟨by simp [restrict_env, q_35, q_36, q_37, h_39, h_48], by simp [restrict_env, q_35, q_36, q_37, h_39, h_48], by simp [restrict_mem, q_35, q_36, q_37, h_39, h_48], NoBox.restrict (by intro k hk hb; simp at hk hb; simp [hk, hb, q_35, q_36, q_37, h_39, h_48, hn_38 k (by simp [hk, hb])])⟩
          · try simp at h_48
            cases hp
            try simp [q_35, q_36, q_37, h_39, h_48]
            refine goal_outR ?_
            rw [X_33_]
            exact ⟨_, rfl, by simp [restrict_env, q_35, q_36, q_37, h_39, h_48], by simp [restrict_mem, q_35, q_36, q_37, h_39, h_48], NoBox.restrict (by intro k hk hb; simp at hk hb; simp [hk, hb, q_35, q_36, q_37, h_39, h_48, hn_38 k (by simp [hk, hb])])⟩
        · try simp at h_39
          cases hp
          try simp [q_35, q_36, q_37, h_39]
          refine goal_outX ?_
          rw [X_33_]
          exact ⟨_, rfl, by simp [restrict_mem, q_35, q_36, q_37, h_39], NoBox.restrict (by intro k hk hb; simp at hk hb; simp [hk, hb, q_35, q_36, q_37, h_39, hn_38 k (by simp [hk, hb])])⟩
      · intro out hX
        rw [X_33_] at hX
        rcases r_49 with r_49 | r_49
        · simp only [Sum.elim_inl, Sum.elim_inr] at hX hp
          obtain ⟨σ_51, rfl, q_52, q_53, hn_54⟩ := hX
          cases hp
          simp [Goal, FnEnd, q_52, q_53]
        · simp only [Sum.elim_inl, Sum.elim_inr] at hX hp
          obtain ⟨σ_55, rfl, q_56, hn_57⟩ := hX
          cases hp
          simp [Goal, FnEnd, q_56]
theorem pc103 : PC Try.prog 103 C103 := pc_of (g := g103) (ctxOK_of [(45, C45)] rfl ⟨pc45, trivial⟩) ⟨Try.f103, Try.func103, by kernel_rfl, by kernel_rfl⟩ fun x y h => w103 h

noncomputable def C148 : List AV → Option AV := specP (X := (List Int) × Int × Unit) fun x => spec_Positions x.1 x.2.1
theorem C148_eq {list n_} {y} (h : spec_Positions list n_ = some y) : C148 [av .shr list, av .shr n_] = some (Res.res y) := specP_eq (X := (List Int) × Int × Unit) (F := fun x => spec_Positions x.1 x.2.1) (x := (list, n_, ())) h
noncomputable def g148 : Cfg := { P := Try.prog, take := [(148, 20), (148, 24)], keep := [((148, 3), { hd := [0, 1, 5, 6], bx := [], ex := [5], rt := [4] })], gho := [], ctx := [] }
@[simp] theorem g148_P : g148.P = Try.prog := rfl
@[simp] theorem g148_t : g148.take = [(148, 20), (148, 24)] := rfl
@[simp] theorem g148_g : g148.gho = [] := rfl
set_option maxHeartbeats 4000000 in
set_option maxRecDepth 100000 in
theorem w148 {list n_} {y} (hp : spec_Positions list n_ = some y) : ∃ m, callo g148 0 148 [av .shr list, av .shr n_] mem0 = some (Res.res y, m) := by
  refine start_fn (Try.f148.body.getD .skip) [.tmp 4] rfl rfl Try.func148 (by kernel_rfl) (by kernel_rfl) (by simp [Try.ntmps148]) rfl ?_
  unfold spec_Positions at hp
  simp [Try.f148]
  obtain ⟨r_20, h_21, hp⟩ := bind_some hp
  obtain ⟨I_3, I_3_⟩ : ∃ I : (List Int) × Int → St → Prop, I = (fun (s_1 : (List Int) × Int) (σ : St) => σ.env 0 = .one (.l .shr list.length (encL list)) ∧ σ.env 1 = .one (.s (.int .i64 n_)) ∧ σ.env 5 = .one (.l .own s_1.1.length (encL s_1.1)) ∧ σ.env 6 = .one (.s (.int .i64 s_1.2)) ∧ σ.mem = mem0) := ⟨_, rfl⟩
  obtain ⟨X_4, X_4_⟩ : ∃ X : (List Int) → Out → Prop, X = (fun (r_20 : (List Int)) (out : Out) => ∃ σ : St, out = .exit 0 σ ∧ σ.env 5 = .one (.l .own r_20.length (encL r_20)) ∧ σ.mem = mem0) := ⟨_, rfl⟩
  refine loopP ({ hd := [0, 1, 5, 6], bx := [], ex := [5], rt := [4] }) I_3 X_4 h_21 (by exact rfl) ?_ ?_ ?_
  · rw [I_3_]
    exact ⟨by simp [restrict_env], by simp [restrict_env], by simp [restrict_env], by simp [restrict_env], by simp [restrict_mem]⟩
  · intro s_1 σ_5 a_2 hI hp
    rw [I_3_] at hI
    obtain ⟨q_6, q_7, q_8, q_9, q_10⟩ := hI
    try simp [q_6, q_7, q_8, q_9, q_10]
    rcases cond_cases hp with ⟨h_11, hp⟩ | ⟨h_11, hp⟩
    · try simp at h_11
      obtain ⟨e_12, h_13, hp⟩ := bind_some hp
      have b_14 := at_lo h_13
      have b_15 := at_hi h_13
      try simp at b_14
      try simp at b_15
      have c_16 := seg_at' h_13 0 1 (by decide) (ds := [.sc (.int .i64 e_12)]) rfl
      try simp at c_16
      try simp [q_6, q_7, q_8, q_9, q_10, h_11, b_14, b_15, c_16]
      rcases cond_cases hp with ⟨h_17, hp⟩ | ⟨h_17, hp⟩
      · try simp at h_17
        obtain ⟨_, h_18, hp⟩ := bind_some hp
        have b_19 := room_ok h_18
        try simp at b_19
        cases hp
        try simp [q_6, q_7, q_8, q_9, q_10, h_11, h_17, b_19]
        refine goal_next ?_
        rw [I_3_]
        exact ⟨by simp [restrict_env, q_6, q_7, q_8, q_9, q_10, h_11, h_17, b_19], by simp [restrict_env, q_6, q_7, q_8, q_9, q_10, h_11, h_17, b_19], by simp [restrict_env, q_6, q_7, q_8, q_9, q_10, h_11, h_17, b_19], by simp [restrict_env, q_6, q_7, q_8, q_9, q_10, h_11, h_17, b_19], by simp [restrict_mem, q_6, q_7, q_8, q_9, q_10, h_11, h_17, b_19]⟩
      · try simp at h_17
        cases hp
        try simp [q_6, q_7, q_8, q_9, q_10, h_11, h_17]
        refine goal_next ?_
        rw [I_3_]
        exact ⟨by simp [restrict_env, q_6, q_7, q_8, q_9, q_10, h_11, h_17], by simp [restrict_env, q_6, q_7, q_8, q_9, q_10, h_11, h_17], by simp [restrict_env, q_6, q_7, q_8, q_9, q_10, h_11, h_17], by simp [restrict_env, q_6, q_7, q_8, q_9, q_10, h_11, h_17], by simp [restrict_mem, q_6, q_7, q_8, q_9, q_10, h_11, h_17]⟩
    · try simp at h_11
      cases hp
      try simp [q_6, q_7, q_8, q_9, q_10, h_11]
      refine goal_outX ?_
      rw [X_4_]
      exact ⟨_, rfl, by simp [restrict_env, q_6, q_7, q_8, q_9, q_10, h_11], by simp [restrict_mem, q_6, q_7, q_8, q_9, q_10, h_11]⟩
  · intro out hX
    rw [X_4_] at hX
    obtain ⟨σ_22, rfl, q_23, q_24⟩ := hX
    cases hp
    simp [Goal, FnEnd, q_23, q_24]
theorem pc148 : PC Try.prog 148 C148 := pc_of (g := g148) (fun f F h => by cases h) ⟨Try.f148, Try.func148, by kernel_rfl, by kernel_rfl⟩ fun x y h => w148 h

noncomputable def C149 : List AV → Option AV := specP (X := (List Int) × Int × Unit) fun x => spec_l7Has x.1 x.2.1
theorem C149_eq {list n_} {y} (h : spec_l7Has list n_ = some y) : C149 [av .shr list, av .shr n_] = some (Res.res y) := specP_eq (X := (List Int) × Int × Unit) (F := fun x => spec_l7Has x.1 x.2.1) (x := (list, n_, ())) h
noncomputable def g149 : Cfg := { P := Try.prog, take := [], keep := [], gho := [], ctx := [(148, C148)] }
@[simp] theorem g149_P : g149.P = Try.prog := rfl
@[simp] theorem g149_t : g149.take = [] := rfl
@[simp] theorem g149_g : g149.gho = [] := rfl
@[simp] theorem g149_148 : lookN 148 g149.ctx = some C148 := rfl
set_option maxHeartbeats 4000000 in
set_option maxRecDepth 100000 in
theorem w149 {list n_} {y} (hp : spec_l7Has list n_ = some y) : ∃ m, callo g149 0 149 [av .shr list, av .shr n_] mem0 = some (Res.res y, m) := by
  refine start_fn (Try.f149.body.getD .skip) [.tmp 4] rfl rfl Try.func149 (by kernel_rfl) (by kernel_rfl) (by simp [Try.ntmps149]) rfl ?_
  unfold spec_l7Has at hp
  obtain ⟨y_1, h_2, hp⟩ := bind_some hp
  have c_3 := C148_eq h_2
  simp at c_3
  cases hp
  simp [Try.f149, Goal, FnEnd, c_3]
theorem pc149 : PC Try.prog 149 C149 := pc_of (g := g149) (ctxOK_of [(148, C148)] rfl ⟨pc148, trivial⟩) ⟨Try.f149, Try.func149, by kernel_rfl, by kernel_rfl⟩ fun x y h => w149 h

noncomputable def C150 : List AV → Option AV := specP (X := THeap × Int × Unit) fun x => spec_Followed x.1 x.2.1
theorem C150_eq {h_ cell} {y} (h : spec_Followed h_ cell = some y) : C150 [av .shr h_, av .shr cell] = some (Res.res y) := specP_eq (X := THeap × Int × Unit) (F := fun x => spec_Followed x.1 x.2.1) (x := (h_, cell, ())) h
noncomputable def g150 : Cfg := { P := Try.prog, take := [(150, 23), (150, 32)], keep := [((150, 2), { hd := [1, 2, 5], bx := [], ex := [5], rt := [4] })], gho := [], ctx := [(45, C45), (149, C149)] }
@[simp] theorem g150_P : g150.P = Try.prog := rfl
@[simp] theorem g150_t : g150.take = [(150, 23), (150, 32)] := rfl
@[simp] theorem g150_g : g150.gho = [] := rfl
@[simp] theorem g150_45 : lookN 45 g150.ctx = some C45 := rfl
@[simp] theorem g150_149 : lookN 149 g150.ctx = some C149 := rfl
set_option maxHeartbeats 4000000 in
set_option maxRecDepth 100000 in
theorem w150 {h_ cell} {y} (hp : spec_Followed h_ cell = some y) : ∃ m, callo g150 0 150 [av .shr h_, av .shr cell] mem0 = some (Res.res y, m) := by
  refine start_fn (Try.f150.body.getD .skip) [.tmp 4] rfl rfl Try.func150 (by kernel_rfl) (by kernel_rfl) (by simp [Try.ntmps150]) rfl ?_
  unfold spec_Followed at hp
  simp [Try.f150]
  obtain ⟨r_27, h_28, hp⟩ := bind_some hp
  obtain ⟨I_3, I_3_⟩ : ∃ I : Int × (List Int) → St → Prop, I = (fun (s_1 : Int × (List Int)) (σ : St) => σ.env 1 = .one (.s (.int .i64 s_1.1)) ∧ σ.env 2 = .one (.ptr (1, 2) 0) ∧ σ.env 5 = .one (.l .own s_1.2.length (encL s_1.2)) ∧ σ.mem (1, 2) = some [(.l .shr h_.vars.length (encL h_.vars)), (.l .shr h_.next.length (encL h_.next))] ∧ NoBox [(1, 2)] σ.mem) := ⟨_, rfl⟩
  obtain ⟨X_4, X_4_⟩ : ∃ X : (((List Int)) ⊕ (Unit)) → Out → Prop, X = (fun (r_27 : ((List Int)) ⊕ (Unit)) (out : Out) => Sum.elim (fun r_27 => ∃ σ : St, out = .exit 0 σ ∧ σ.env 5 = .one (.l .own r_27.length (encL r_27)) ∧ σ.mem (1, 2) = some [(.l .shr h_.vars.length (encL h_.vars)), (.l .shr h_.next.length (encL h_.next))] ∧ NoBox [(1, 2)] σ.mem) (fun r_27 => ∃ σ : St, out = .ret σ ∧ σ.env 4 = .one (.l .own 0 []) ∧ σ.mem (1, 2) = some [(.l .shr h_.vars.length (encL h_.vars)), (.l .shr h_.next.length (encL h_.next))] ∧ NoBox [(1, 2)] σ.mem) r_27) := ⟨_, rfl⟩
  refine loopP ({ hd := [1, 2, 5], bx := [], ex := [5], rt := [4] }) I_3 X_4 h_28 (by exact rfl) ?_ ?_ ?_
  · rw [I_3_]
    exact ⟨by simp [restrict_env], by simp [restrict_env], by simp [restrict_env], by simp [restrict_mem], NoBox.restrict (by intro k hk hb; simp at hk hb; simp [hk, hb])⟩
  · intro s_1 σ_5 a_2 hI hp
    rw [I_3_] at hI
    obtain ⟨q_6, q_7, q_8, q_9, hn_10⟩ := hI
    try simp [q_6, q_7, q_8, q_9]
    rcases cond_cases hp with ⟨h_11, hp⟩ | ⟨h_11, hp⟩
    · try simp at h_11
      obtain ⟨y_12, h_13, hp⟩ := bind_some hp
      have c_14 := C149_eq h_13
      simp at c_14
      try simp [q_6, q_7, q_8, q_9, h_11, c_14]
      rcases cond_cases hp with ⟨h_15, hp⟩ | ⟨h_15, hp⟩
      · try simp at h_15
        cases hp
        try simp [q_6, q_7, q_8, q_9, h_11, h_15]
        refine goal_outX ?_
        rw [X_4_]
        exact ⟨_, rfl, by simp [restrict_env, q_6, q_7, q_8, q_9, h_11, h_15], by simp [restrict_mem, q_6, q_7, q_8, q_9, h_11, h_15], NoBox.restrict (by intro k hk hb; simp at hk hb; simp [hk, hb, q_6, q_7, q_8, q_9, h_11, h_15, hn_10 k (by simp [hk, hb])])⟩
      · try simp at h_15
        obtain ⟨y_16, h_17, hp⟩ := bind_some hp
        have c_18 := C45_eq h_17
        simp at c_18
        try simp [q_6, q_7, q_8, q_9, h_11, h_15, c_18]
        rcases cond_cases hp with ⟨h_19, hp⟩ | ⟨h_19, hp⟩
        · try simp at h_19
          obtain ⟨_, h_20, hp⟩ := bind_some hp
          have b_21 := room_ok h_20
          try simp at b_21
          obtain ⟨e_22, h_23, hp⟩ := bind_some hp
          have b_24 := at_lo h_23
          have b_25 := at_hi h_23
          try simp at b_24
          try simp at b_25
          have c_26 := seg_at' h_23 0 1 (by decide) (ds := [.sc (.int .i64 e_22)]) rfl
          try simp at c_26
          cases hp
          try simp [q_6, q_7, q_8, q_9, h_11, h_15, h_19, b_21, b_24, b_25, c_26]
          refine goal_next ?_
          rw [I_3_]
          exact ⟨by simp [restrict_env, q_6, q_7, q_8, q_9, h_11, h_15, h_19, b_21, b_24, b_25, c_26], by simp [restrict_env, q_6, q_7, q_8, q_9, h_11, h_15, h_19, b_21, b_24, b_25, c_26], by simp [restrict_env, q_6, q_7, q_8, q_9, h_11, h_15, h_19, b_21, b_24, b_25, c_26], by simp [restrict_mem, q_6, q_7, q_8, q_9, h_11, h_15, h_19, b_21, b_24, b_25, c_26], NoBox.restrict (by intro k hk hb; simp at hk hb; simp [hk, hb, q_6, q_7, q_8, q_9, h_11, h_15, h_19, b_21, b_24, b_25, c_26, hn_10 k (by simp [hk, hb])])⟩
        · try simp at h_19
          cases hp
          try simp [q_6, q_7, q_8, q_9, h_11, h_15, h_19]
          refine goal_outR ?_
          rw [X_4_]
          exact ⟨_, rfl, by simp [restrict_env, q_6, q_7, q_8, q_9, h_11, h_15, h_19], by simp [restrict_mem, q_6, q_7, q_8, q_9, h_11, h_15, h_19], NoBox.restrict (by intro k hk hb; simp at hk hb; simp [hk, hb, q_6, q_7, q_8, q_9, h_11, h_15, h_19, hn_10 k (by simp [hk, hb])])⟩
    · try simp at h_11
      cases hp
      try simp [q_6, q_7, q_8, q_9, h_11]
      refine goal_outX ?_
      rw [X_4_]
      exact ⟨_, rfl, by simp [restrict_env, q_6, q_7, q_8, q_9, h_11], by simp [restrict_mem, q_6, q_7, q_8, q_9, h_11], NoBox.restrict (by intro k hk hb; simp at hk hb; simp [hk, hb, q_6, q_7, q_8, q_9, h_11, hn_10 k (by simp [hk, hb])])⟩
  · intro out hX
    rw [X_4_] at hX
    rcases r_27 with r_27 | r_27
    · simp only [Sum.elim_inl, Sum.elim_inr] at hX hp
      obtain ⟨σ_29, rfl, q_30, q_31, hn_32⟩ := hX
      cases hp
      simp [Goal, FnEnd, q_30, q_31]
    · simp only [Sum.elim_inl, Sum.elim_inr] at hX hp
      obtain ⟨σ_33, rfl, q_34, q_35, hn_36⟩ := hX
      cases hp
      simp [Goal, FnEnd, q_34, q_35]
theorem pc150 : PC Try.prog 150 C150 := pc_of (g := g150) (ctxOK_of [(45, C45), (149, C149)] rfl ⟨pc45, pc149, trivial⟩) ⟨Try.f150, Try.func150, by kernel_rfl, by kernel_rfl⟩ fun x y h => w150 h

noncomputable def C104 : List AV → Option AV := specP (X := THeap × Unit) fun x => spec_l7Acyclic x.1
theorem C104_eq {h_} {y} (h : spec_l7Acyclic h_ = some y) : C104 [av .shr h_] = some (Res.res y) := specP_eq (X := THeap × Unit) (F := fun x => spec_l7Acyclic x.1) (x := (h_, ())) h
noncomputable def g104 : Cfg := { P := Try.prog, take := [], keep := [((104, 2), { hd := [1, 3], bx := [], ex := [], rt := [2] })], gho := [], ctx := [(150, C150)] }
@[simp] theorem g104_P : g104.P = Try.prog := rfl
@[simp] theorem g104_t : g104.take = [] := rfl
@[simp] theorem g104_g : g104.gho = [] := rfl
@[simp] theorem g104_150 : lookN 150 g104.ctx = some C150 := rfl
set_option maxHeartbeats 4000000 in
set_option maxRecDepth 100000 in
theorem w104 {h_} {y} (hp : spec_l7Acyclic h_ = some y) : ∃ m, callo g104 0 104 [av .shr h_] mem0 = some (Res.res y, m) := by
  refine start_fn (Try.f104.body.getD .skip) [.tmp 2] rfl rfl Try.func104 (by kernel_rfl) (by kernel_rfl) (by simp [Try.ntmps104]) rfl ?_
  unfold spec_l7Acyclic at hp
  simp [Try.f104]
  obtain ⟨r_26, h_27, hp⟩ := bind_some hp
  obtain ⟨I_3, I_3_⟩ : ∃ I : Int → St → Prop, I = (fun (s_1 : Int) (σ : St) => σ.env 1 = .one (.ptr (1, 1) 0) ∧ σ.env 3 = .one (.s (.int .i64 s_1)) ∧ σ.mem (1, 1) = some [(.l .shr h_.vars.length (encL h_.vars)), (.l .shr h_.next.length (encL h_.next))] ∧ NoBox [(1, 1)] σ.mem) := ⟨_, rfl⟩
  obtain ⟨X_4, X_4_⟩ : ∃ X : ((Unit) ⊕ (Unit)) → Out → Prop, X = (fun (r_26 : (Unit) ⊕ (Unit)) (out : Out) => Sum.elim (fun r_26 => ∃ σ : St, out = .ret σ ∧ σ.env 2 = .one (.s (.bool false)) ∧ σ.mem (1, 1) = some [(.l .shr h_.vars.length (encL h_.vars)), (.l .shr h_.next.length (encL h_.next))] ∧ NoBox [(1, 1)] σ.mem) (fun r_26 => ∃ σ : St, out = .exit 0 σ ∧ σ.mem (1, 1) = some [(.l .shr h_.vars.length (encL h_.vars)), (.l .shr h_.next.length (encL h_.next))] ∧ NoBox [(1, 1)] σ.mem) r_26) := ⟨_, rfl⟩
  refine loopP ({ hd := [1, 3], bx := [], ex := [], rt := [2] }) I_3 X_4 h_27 (by exact rfl) ?_ ?_ ?_
  · rw [I_3_]
    exact ⟨by simp [restrict_env], by simp [restrict_env], by simp [restrict_mem], NoBox.restrict (by intro k hk hb; simp at hk hb; simp [hk, hb])⟩
  · intro s_1 σ_5 a_2 hI hp
    rw [I_3_] at hI
    obtain ⟨q_6, q_7, q_8, hn_9⟩ := hI
    try simp [q_6, q_7, q_8]
    rcases cond_cases hp with ⟨h_10, hp⟩ | ⟨h_10, hp⟩
    · try simp at h_10
      obtain ⟨y_11, h_12, hp⟩ := bind_some hp
      have c_13 := C150_eq h_12
      simp at c_13
      try simp [q_6, q_7, q_8, h_10, c_13]
      rcases cond_cases hp with ⟨h_14, hp⟩ | ⟨h_14, hp⟩
      · try simp at h_14
        cases hp
        try simp [q_6, q_7, q_8, h_10, h_14]
        refine goal_outR ?_
        rw [X_4_]
        exact ⟨_, rfl, by simp [restrict_env, q_6, q_7, q_8, h_10, h_14], by simp [restrict_mem, q_6, q_7, q_8, h_10, h_14], NoBox.restrict (by intro k hk hb; simp at hk hb; simp [hk, hb, q_6, q_7, q_8, h_10, h_14, hn_9 k (by simp [hk, hb])])⟩
      · try simp at h_14
        obtain ⟨e_15, h_16, hp⟩ := bind_some hp
        have b_17 := at_lo h_16
        have b_18 := at_hi h_16
        try simp at b_17
        try simp at b_18
        have c_19 := seg_at' h_16 0 1 (by decide) (ds := [.sc (.int .i64 e_15)]) rfl
        try simp at c_19
        obtain ⟨e_20, h_21, hp⟩ := bind_some hp
        have b_22 := at_lo h_21
        have b_23 := at_hi h_21
        try simp at b_22
        try simp at b_23
        have c_24 := seg_at' h_21 0 1 (by decide) (ds := [.sc (.int .i64 e_20)]) rfl
        try simp at c_24
        try simp [q_6, q_7, q_8, h_10, h_14, b_17, b_18, c_19, b_22, b_23, c_24]
        rcases cond_cases hp with ⟨h_25, hp⟩ | ⟨h_25, hp⟩
        · try simp at h_25
          cases hp
          try simp [q_6, q_7, q_8, h_10, h_14, h_25]
          refine goal_outR ?_
          rw [X_4_]
          exact ⟨_, rfl, by simp [restrict_env, q_6, q_7, q_8, h_10, h_14, h_25], by simp [restrict_mem, q_6, q_7, q_8, h_10, h_14, h_25], NoBox.restrict (by intro k hk hb; simp at hk hb; simp [hk, hb, q_6, q_7, q_8, h_10, h_14, h_25, hn_9 k (by simp [hk, hb])])⟩
        · try simp at h_25
          cases hp
          try simp [q_6, q_7, q_8, h_10, h_14, h_25]
          refine goal_next ?_
          rw [I_3_]
          exact ⟨by simp [restrict_env, q_6, q_7, q_8, h_10, h_14, h_25], by simp [restrict_env, q_6, q_7, q_8, h_10, h_14, h_25], by simp [restrict_mem, q_6, q_7, q_8, h_10, h_14, h_25], NoBox.restrict (by intro k hk hb; simp at hk hb; simp [hk, hb, q_6, q_7, q_8, h_10, h_14, h_25, hn_9 k (by simp [hk, hb])])⟩
    · try simp at h_10
      cases hp
      try simp [q_6, q_7, q_8, h_10]
      refine goal_outX ?_
      rw [X_4_]
      exact ⟨_, rfl, by simp [restrict_mem, q_6, q_7, q_8, h_10], NoBox.restrict (by intro k hk hb; simp at hk hb; simp [hk, hb, q_6, q_7, q_8, h_10, hn_9 k (by simp [hk, hb])])⟩
  · intro out hX
    rw [X_4_] at hX
    rcases r_26 with r_26 | r_26
    · simp only [Sum.elim_inl, Sum.elim_inr] at hX hp
      obtain ⟨σ_28, rfl, q_29, q_30, hn_31⟩ := hX
      cases hp
      simp [Goal, FnEnd, q_29, q_30]
    · simp only [Sum.elim_inl, Sum.elim_inr] at hX hp
      obtain ⟨σ_32, rfl, q_33, hn_34⟩ := hX
      cases hp
      simp [Goal, FnEnd, q_33]
theorem pc104 : PC Try.prog 104 C104 := pc_of (g := g104) (ctxOK_of [(150, C150)] rfl ⟨pc150, trivial⟩) ⟨Try.f104, Try.func104, by kernel_rfl, by kernel_rfl⟩ fun x y h => w104 h

noncomputable def C105 : List AV → Option AV := specP (X := THeap × Unit) fun x => spec_l7Order x.1
theorem C105_eq {h_} {y} (h : spec_l7Order h_ = some y) : C105 [av .shr h_] = some (Res.res y) := specP_eq (X := THeap × Unit) (F := fun x => spec_l7Order x.1) (x := (h_, ())) h
noncomputable def g105 : Cfg := { P := Try.prog, take := [(105, 35), (105, 42)], keep := [((105, 3), { hd := [1, 3, 4], bx := [], ex := [3], rt := [2] }), ((105, 7), { hd := [1, 3, 4, 5, 6], bx := [], ex := [1, 3, 4], rt := [2] })], gho := [], ctx := [(149, C149), (150, C150)] }
@[simp] theorem g105_P : g105.P = Try.prog := rfl
@[simp] theorem g105_t : g105.take = [(105, 35), (105, 42)] := rfl
@[simp] theorem g105_g : g105.gho = [] := rfl
@[simp] theorem g105_149 : lookN 149 g105.ctx = some C149 := rfl
@[simp] theorem g105_150 : lookN 150 g105.ctx = some C150 := rfl
set_option maxHeartbeats 4000000 in
set_option maxRecDepth 100000 in
theorem w105 {h_} {y} (hp : spec_l7Order h_ = some y) : ∃ m, callo g105 0 105 [av .shr h_] mem0 = some (Res.res y, m) := by
  refine start_fn (Try.f105.body.getD .skip) [.tmp 2] rfl rfl Try.func105 (by kernel_rfl) (by kernel_rfl) (by simp [Try.ntmps105]) rfl ?_
  unfold spec_l7Order at hp
  simp [Try.f105]
  obtain ⟨r_57, h_58, hp⟩ := bind_some hp
  obtain ⟨I_3, I_3_⟩ : ∃ I : (List Int) × Int → St → Prop, I = (fun (s_1 : (List Int) × Int) (σ : St) => σ.env 1 = .one (.ptr (1, 1) 0) ∧ σ.env 3 = .one (.l .own s_1.1.length (encL s_1.1)) ∧ σ.env 4 = .one (.s (.int .i64 s_1.2)) ∧ σ.mem (1, 1) = some [(.l .shr h_.vars.length (encL h_.vars)), (.l .shr h_.next.length (encL h_.next))] ∧ NoBox [(1, 1)] σ.mem) := ⟨_, rfl⟩
  obtain ⟨X_4, X_4_⟩ : ∃ X : (List Int) → Out → Prop, X = (fun (r_57 : (List Int)) (out : Out) => ∃ σ : St, out = .exit 0 σ ∧ σ.env 3 = .one (.l .own r_57.length (encL r_57)) ∧ σ.mem (1, 1) = some [(.l .shr h_.vars.length (encL h_.vars)), (.l .shr h_.next.length (encL h_.next))] ∧ NoBox [(1, 1)] σ.mem) := ⟨_, rfl⟩
  refine loopP ({ hd := [1, 3, 4], bx := [], ex := [3], rt := [2] }) I_3 X_4 h_58 (by exact rfl) ?_ ?_ ?_
  · rw [I_3_]
    exact ⟨by simp [restrict_env], by simp [restrict_env], by simp [restrict_env], by simp [restrict_mem], NoBox.restrict (by intro k hk hb; simp at hk hb; simp [hk, hb])⟩
  · intro s_1 σ_5 a_2 hI hp
    rw [I_3_] at hI
    obtain ⟨q_6, q_7, q_8, q_9, hn_10⟩ := hI
    try simp [q_6, q_7, q_8, q_9]
    rcases cond_cases hp with ⟨h_11, hp⟩ | ⟨h_11, hp⟩
    · try simp at h_11
      obtain ⟨e_12, h_13, hp⟩ := bind_some hp
      have b_14 := at_lo h_13
      have b_15 := at_hi h_13
      try simp at b_14
      try simp at b_15
      have c_16 := seg_at' h_13 0 1 (by decide) (ds := [.sc (.int .i64 e_12)]) rfl
      try simp at c_16
      obtain ⟨y_17, h_18, hp⟩ := bind_some hp
      have c_19 := C150_eq h_18
      simp at c_19
      try simp [q_6, q_7, q_8, q_9, h_11, b_14, b_15, c_16, c_19]
      obtain ⟨r_49, h_50, hp⟩ := bind_some hp
      obtain ⟨I_22, I_22_⟩ : ∃ I : Int × (List Int) → St → Prop, I = (fun (s_20 : Int × (List Int)) (σ : St) => σ.env 1 = .one (.ptr (1, 1) 0) ∧ σ.env 3 = .one (.l .own s_20.2.length (encL s_20.2)) ∧ σ.env 4 = .one (.s (.int .i64 s_1.2)) ∧ σ.env 5 = .one (.l .own y_17.length (encL y_17)) ∧ σ.env 6 = .one (.s (.int .i64 s_20.1)) ∧ σ.mem (1, 1) = some [(.l .shr h_.vars.length (encL h_.vars)), (.l .shr h_.next.length (encL h_.next))] ∧ NoBox [(1, 1)] σ.mem) := ⟨_, rfl⟩
      obtain ⟨X_23, X_23_⟩ : ∃ X : (List Int) → Out → Prop, X = (fun (r_49 : (List Int)) (out : Out) => ∃ σ : St, out = .exit 2 σ ∧ σ.env 1 = .one (.ptr (1, 1) 0) ∧ σ.env 3 = .one (.l .own r_49.length (encL r_49)) ∧ σ.env 4 = .one (.s (.int .i64 s_1.2)) ∧ σ.mem (1, 1) = some [(.l .shr h_.vars.length (encL h_.vars)), (.l .shr h_.next.length (encL h_.next))] ∧ NoBox [(1, 1)] σ.mem) := ⟨_, rfl⟩
      refine loopP ({ hd := [1, 3, 4, 5, 6], bx := [], ex := [1, 3, 4], rt := [2] }) I_22 X_23 h_50 (by exact rfl) ?_ ?_ ?_
      · rw [I_22_]
        exact ⟨by simp [restrict_env, q_6, q_7, q_8, q_9, h_11], by simp [restrict_env, q_6, q_7, q_8, q_9, h_11], by simp [restrict_env, q_6, q_7, q_8, q_9, h_11], by simp [restrict_env, q_6, q_7, q_8, q_9, h_11], by simp [restrict_env, q_6, q_7, q_8, q_9, h_11], by simp [restrict_mem, q_6, q_7, q_8, q_9, h_11], NoBox.restrict (by intro k hk hb; simp at hk hb; simp [hk, hb, q_6, q_7, q_8, q_9, h_11, hn_10 k (by simp [hk, hb])])⟩
      · intro s_20 σ_24 a_21 hI hp
        rw [I_22_] at hI
        obtain ⟨q_25, q_26, q_27, q_28, q_29, q_30, hn_31⟩ := hI
        try simp [h_11, q_25, q_26, q_27, q_28, q_29, q_30]
        rcases cond_cases hp with ⟨h_32, hp⟩ | ⟨h_32, hp⟩
        · try simp at h_32
          obtain ⟨e_33, h_34, hp⟩ := bind_some hp
          have b_35 := at_lo h_34
          have b_36 := at_hi h_34
          try simp at b_35
          try simp at b_36
          have c_37 := seg_at' h_34 0 1 (by decide) (ds := [.sc (.int .i64 e_33)]) rfl
          try simp at c_37
          obtain ⟨y_38, h_39, hp⟩ := bind_some hp
          have c_40 := C149_eq h_39
          simp at c_40
          try simp [h_11, q_25, q_26, q_27, q_28, q_29, q_30, h_32, b_35, b_36, c_37, c_40]
          rcases cond_cases hp with ⟨h_41, hp⟩ | ⟨h_41, hp⟩
          · try simp at h_41
            cases hp
            try simp [h_11, q_25, q_26, q_27, q_28, q_29, q_30, h_32, h_41]
            refine goal_next ?_
            rw [I_22_]
            exact ⟨by simp [restrict_env, h_11, q_25, q_26, q_27, q_28, q_29, q_30, h_32, h_41], by simp [restrict_env, h_11, q_25, q_26, q_27, q_28, q_29, q_30, h_32, h_41], by simp [restrict_env, h_11, q_25, q_26, q_27, q_28, q_29, q_30, h_32, h_41], by simp [restrict_env, h_11, q_25, q_26, q_27, q_28, q_29, q_30, h_32, h_41], by simp [restrict_env, h_11, q_25, q_26, q_27, q_28, q_29, q_30, h_32, h_41], by simp [restrict_mem, h_11, q_25, q_26, q_27, q_28, q_29, q_30, h_32, h_41], NoBox.restrict (by intro k hk hb; simp at hk hb; simp [hk, hb, h_11, q_25, q_26, q_27, q_28, q_29, q_30, h_32, h_41, hn_31 k (by simp [hk, hb])])⟩
          · try simp at h_41
            obtain ⟨e_42, h_43, hp⟩ := bind_some hp
            cases Option.some.inj (h_34.symm.trans h_43)
            have b_44 := at_lo h_34
            have b_45 := at_hi h_34
            try simp at b_44
            try simp at b_45
            have c_46 := seg_at' h_34 0 1 (by decide) (ds := [.sc (.int .i64 e_33)]) rfl
            try simp at c_46
            obtain ⟨_, h_47, hp⟩ := bind_some hp
            have b_48 := room_ok h_47
            try simp at b_48
            cases hp
            try simp [h_11, q_25, q_26, q_27, q_28, q_29, q_30, h_32, h_41, b_44, b_45, c_46, b_48]
            refine goal_next ?_
            rw [I_22_]
            exact ⟨by simp [restrict_env, h_11, q_25, q_26, q_27, q_28, q_29, q_30, h_32, h_41, b_44, b_45, c_46, b_48], by simp [restrict_env, h_11, q_25, q_26, q_27, q_28, q_29, q_30, h_32, h_41, b_44, b_45, c_46, b_48], by simp [restrict_env, h_11, q_25, q_26, q_27, q_28, q_29, q_30, h_32, h_41, b_44, b_45, c_46, b_48], by simp [restrict_env, h_11, q_25, q_26, q_27, q_28, q_29, q_30, h_32, h_41, b_44, b_45, c_46, b_48], by simp [restrict_env, h_11, q_25, q_26, q_27, q_28, q_29, q_30, h_32, h_41, b_44, b_45, c_46, b_48], by simp [restrict_mem, h_11, q_25, q_26, q_27, q_28, q_29, q_30, h_32, h_41, b_44, b_45, c_46, b_48], NoBox.restrict (by intro k hk hb; simp at hk hb; simp [hk, hb, h_11, q_25, q_26, q_27, q_28, q_29, q_30, h_32, h_41, b_44, b_45, c_46, b_48, hn_31 k (by simp [hk, hb])])⟩
        · try simp at h_32
          cases hp
          try simp [h_11, q_25, q_26, q_27, q_28, q_29, q_30, h_32]
          refine goal_outX ?_
          rw [X_23_]
          exact ⟨_, rfl, by simp [restrict_env, h_11, q_25, q_26, q_27, q_28, q_29, q_30, h_32], by simp [restrict_env, h_11, q_25, q_26, q_27, q_28, q_29, q_30, h_32], by simp [restrict_env, h_11, q_25, q_26, q_27, q_28, q_29, q_30, h_32], by simp [restrict_mem, h_11, q_25, q_26, q_27, q_28, q_29, q_30, h_32], NoBox.restrict (by intro k hk hb; simp at hk hb; simp [hk, hb, h_11, q_25, q_26, q_27, q_28, q_29, q_30, h_32, hn_31 k (by simp [hk, hb])])⟩
      · intro out hX
        rw [X_23_] at hX
        obtain ⟨σ_51, rfl, q_52, q_53, q_54, q_55, hn_56⟩ := hX
        cases hp
        try simp [h_11, q_52, q_53, q_54, q_55]
        refine goal_next ?_
        rw [I_3_]
        exact ⟨by simp [restrict_env, h_11, q_52, q_53, q_54, q_55], by simp [restrict_env, h_11, q_52, q_53, q_54, q_55], by simp [restrict_env, h_11, q_52, q_53, q_54, q_55], by simp [restrict_mem, h_11, q_52, q_53, q_54, q_55], NoBox.restrict (by intro k hk hb; simp at hk hb; simp [hk, hb, h_11, q_52, q_53, q_54, q_55, hn_56 k (by simp [hk, hb])])⟩
    · try simp at h_11
      cases hp
      try simp [q_6, q_7, q_8, q_9, h_11]
      refine goal_outX ?_
      rw [X_4_]
      exact ⟨_, rfl, by simp [restrict_env, q_6, q_7, q_8, q_9, h_11], by simp [restrict_mem, q_6, q_7, q_8, q_9, h_11], NoBox.restrict (by intro k hk hb; simp at hk hb; simp [hk, hb, q_6, q_7, q_8, q_9, h_11, hn_10 k (by simp [hk, hb])])⟩
  · intro out hX
    rw [X_4_] at hX
    obtain ⟨σ_59, rfl, q_60, q_61, hn_62⟩ := hX
    cases hp
    simp [Goal, FnEnd, q_60, q_61]
theorem pc105 : PC Try.prog 105 C105 := pc_of (g := g105) (ctxOK_of [(149, C149), (150, C150)] rfl ⟨pc149, pc150, trivial⟩) ⟨Try.f105, Try.func105, by kernel_rfl, by kernel_rfl⟩ fun x y h => w105 h

noncomputable def C47 : List AV → Option AV := specP (X := Int × THeap × Unit) fun x => spec_IsHeap x.1 x.2.1
theorem C47_eq {vars h_} {y} (h : spec_IsHeap vars h_ = some y) : C47 [av .shr vars, av .shr h_] = some (Res.res y) := specP_eq (X := Int × THeap × Unit) (F := fun x => spec_IsHeap x.1 x.2.1) (x := (vars, h_, ())) h
noncomputable def g47 : Cfg := { P := Try.prog, take := [], keep := [((47, 5), { hd := [3, 5, 6], bx := [], ex := [3, 5], rt := [4] })], gho := [], ctx := [(45, C45), (103, C103), (104, C104), (105, C105)] }
@[simp] theorem g47_P : g47.P = Try.prog := rfl
@[simp] theorem g47_t : g47.take = [] := rfl
@[simp] theorem g47_g : g47.gho = [] := rfl
@[simp] theorem g47_45 : lookN 45 g47.ctx = some C45 := rfl
@[simp] theorem g47_103 : lookN 103 g47.ctx = some C103 := rfl
@[simp] theorem g47_104 : lookN 104 g47.ctx = some C104 := rfl
@[simp] theorem g47_105 : lookN 105 g47.ctx = some C105 := rfl
set_option maxHeartbeats 4000000 in
set_option maxRecDepth 100000 in
theorem w47 {vars h_} {y} (hp : spec_IsHeap vars h_ = some y) : ∃ m, callo g47 0 47 [av .shr vars, av .shr h_] mem0 = some (Res.res y, m) := by
  refine start_fn (Try.f47.body.getD .skip) [.tmp 4] rfl rfl Try.func47 (by kernel_rfl) (by kernel_rfl) (by simp [Try.ntmps47]) rfl ?_
  unfold spec_IsHeap at hp
  obtain ⟨y_1, h_2, hp⟩ := bind_some hp
  have c_3 := C45_eq h_2
  simp at c_3
  simp [Try.f47, c_3]
  rcases cond_cases hp with ⟨h_4, hp⟩ | ⟨h_4, hp⟩
  · try simp at h_4
    try simp [h_4]
    rcases cond_cases hp with ⟨h_5, hp⟩ | ⟨h_5, hp⟩
    · try simp at h_5
      cases hp
      simp [Goal, FnEnd, h_4, h_5]
    · try simp at h_5
      try simp [h_4, h_5]
      rcases cond_cases hp with ⟨h_6, hp⟩ | ⟨h_6, hp⟩
      · try simp at h_6
        cases hp
        simp [Goal, FnEnd, h_4, h_5, h_6]
      · try simp at h_6
        obtain ⟨y_7, h_8, hp⟩ := bind_some hp
        have c_9 := C103_eq h_8
        simp at c_9
        try simp [h_4, h_5, h_6, c_9]
        rcases cond_cases hp with ⟨h_10, hp⟩ | ⟨h_10, hp⟩
        · try simp at h_10
          obtain ⟨y_11, h_12, hp⟩ := bind_some hp
          have c_13 := C104_eq h_12
          simp at c_13
          try simp [h_4, h_5, h_6, h_10, c_13]
          rcases cond_cases hp with ⟨h_14, hp⟩ | ⟨h_14, hp⟩
          · try simp at h_14
            obtain ⟨y_15, h_16, hp⟩ := bind_some hp
            have c_17 := C105_eq h_16
            simp at c_17
            try simp [h_4, h_5, h_6, h_10, h_14, c_17]
            obtain ⟨r_35, h_36, hp⟩ := bind_some hp
            obtain ⟨I_20, I_20_⟩ : ∃ I : Int → St → Prop, I = (fun (s_18 : Int) (σ : St) => σ.env 3 = .one (.ptr (1, 3) 0) ∧ σ.env 5 = .one (.l .own y_15.length (encL y_15)) ∧ σ.env 6 = .one (.s (.int .i64 s_18)) ∧ σ.mem (1, 3) = some [(.l .shr h_.vars.length (encL h_.vars)), (.l .shr h_.next.length (encL h_.next))] ∧ NoBox [(1, 3)] σ.mem) := ⟨_, rfl⟩
            obtain ⟨X_21, X_21_⟩ : ∃ X : ((Unit) ⊕ (Unit)) → Out → Prop, X = (fun (r_35 : (Unit) ⊕ (Unit)) (out : Out) => Sum.elim (fun r_35 => ∃ σ : St, out = .ret σ ∧ σ.env 4 = .one (.s (.bool false)) ∧ σ.mem (1, 3) = some [(.l .shr h_.vars.length (encL h_.vars)), (.l .shr h_.next.length (encL h_.next))] ∧ NoBox [(1, 3)] σ.mem) (fun r_35 => ∃ σ : St, out = .exit 0 σ ∧ σ.env 3 = .one (.ptr (1, 3) 0) ∧ σ.env 5 = .one (.l .own y_15.length (encL y_15)) ∧ σ.mem (1, 3) = some [(.l .shr h_.vars.length (encL h_.vars)), (.l .shr h_.next.length (encL h_.next))] ∧ NoBox [(1, 3)] σ.mem) r_35) := ⟨_, rfl⟩
            refine loopP ({ hd := [3, 5, 6], bx := [], ex := [3, 5], rt := [4] }) I_20 X_21 h_36 (by exact rfl) ?_ ?_ ?_
            · rw [I_20_]
              exact ⟨by simp [restrict_env, h_4, h_5, h_6, h_10, h_14], by simp [restrict_env, h_4, h_5, h_6, h_10, h_14], by simp [restrict_env, h_4, h_5, h_6, h_10, h_14], by simp [restrict_mem, h_4, h_5, h_6, h_10, h_14], NoBox.restrict (by intro k hk hb; simp at hk hb; simp [hk, hb, h_4, h_5, h_6, h_10, h_14])⟩
            · intro s_18 σ_22 a_19 hI hp
              rw [I_20_] at hI
              obtain ⟨q_23, q_24, q_25, q_26, hn_27⟩ := hI
              try simp [h_4, h_5, h_6, h_10, h_14, q_23, q_24, q_25, q_26]
              rcases cond_cases hp with ⟨h_28, hp⟩ | ⟨h_28, hp⟩
              · try simp at h_28
                obtain ⟨e_29, h_30, hp⟩ := bind_some hp
                have b_31 := at_lo h_30
                have b_32 := at_hi h_30
                try simp at b_31
                try simp at b_32
                have c_33 := seg_at' h_30 0 1 (by decide) (ds := [.sc (.int .i64 e_29)]) rfl
                try simp at c_33
                try simp [h_4, h_5, h_6, h_10, h_14, q_23, q_24, q_25, q_26, h_28, b_31, b_32, c_33]
                rcases cond_cases hp with ⟨h_34, hp⟩ | ⟨h_34, hp⟩
                · try simp at h_34
                  cases hp
                  try simp [h_4, h_5, h_6, h_10, h_14, q_23, q_24, q_25, q_26, h_28, h_34]
                  refine goal_outR ?_
                  rw [X_21_]
                  exact ⟨_, rfl, by simp [restrict_env, h_4, h_5, h_6, h_10, h_14, q_23, q_24, q_25, q_26, h_28, h_34], by simp [restrict_mem, h_4, h_5, h_6, h_10, h_14, q_23, q_24, q_25, q_26, h_28, h_34], NoBox.restrict (by intro k hk hb; simp at hk hb; simp [hk, hb, h_4, h_5, h_6, h_10, h_14, q_23, q_24, q_25, q_26, h_28, h_34, hn_27 k (by simp [hk, hb])])⟩
                · try simp at h_34
                  cases hp
                  try simp [h_4, h_5, h_6, h_10, h_14, q_23, q_24, q_25, q_26, h_28, h_34]
                  refine goal_next ?_
                  rw [I_20_]
                  exact ⟨by simp [restrict_env, h_4, h_5, h_6, h_10, h_14, q_23, q_24, q_25, q_26, h_28, h_34], by simp [restrict_env, h_4, h_5, h_6, h_10, h_14, q_23, q_24, q_25, q_26, h_28, h_34], by simp [restrict_env, h_4, h_5, h_6, h_10, h_14, q_23, q_24, q_25, q_26, h_28, h_34], by simp [restrict_mem, h_4, h_5, h_6, h_10, h_14, q_23, q_24, q_25, q_26, h_28, h_34], NoBox.restrict (by intro k hk hb; simp at hk hb; simp [hk, hb, h_4, h_5, h_6, h_10, h_14, q_23, q_24, q_25, q_26, h_28, h_34, hn_27 k (by simp [hk, hb])])⟩
              · try simp at h_28
                cases hp
                try simp [h_4, h_5, h_6, h_10, h_14, q_23, q_24, q_25, q_26, h_28]
                refine goal_outX ?_
                rw [X_21_]
                exact ⟨_, rfl, by simp [restrict_env, h_4, h_5, h_6, h_10, h_14, q_23, q_24, q_25, q_26, h_28], by simp [restrict_env, h_4, h_5, h_6, h_10, h_14, q_23, q_24, q_25, q_26, h_28], by simp [restrict_mem, h_4, h_5, h_6, h_10, h_14, q_23, q_24, q_25, q_26, h_28], NoBox.restrict (by intro k hk hb; simp at hk hb; simp [hk, hb, h_4, h_5, h_6, h_10, h_14, q_23, q_24, q_25, q_26, h_28, hn_27 k (by simp [hk, hb])])⟩
            · intro out hX
              rw [X_21_] at hX
              rcases r_35 with r_35 | r_35
              · simp only [Sum.elim_inl, Sum.elim_inr] at hX hp
                obtain ⟨σ_37, rfl, q_38, q_39, hn_40⟩ := hX
                cases hp
                simp [Goal, FnEnd, h_4, h_5, h_6, h_10, h_14, q_38, q_39]
              · simp only [Sum.elim_inl, Sum.elim_inr] at hX hp
                obtain ⟨σ_41, rfl, q_42, q_43, q_44, hn_45⟩ := hX
                cases hp
                simp [Goal, FnEnd, h_4, h_5, h_6, h_10, h_14, q_42, q_43, q_44]
          · try simp at h_14
            cases hp
            simp [Goal, FnEnd, h_4, h_5, h_6, h_10, h_14]
        · try simp at h_10
          cases hp
          simp [Goal, FnEnd, h_4, h_5, h_6, h_10]
  · try simp at h_4
    cases hp
    simp [Goal, FnEnd, h_4]
theorem pc47 : PC Try.prog 47 C47 := pc_of (g := g47) (ctxOK_of [(45, C45), (103, C103), (104, C104), (105, C105)] rfl ⟨pc45, pc103, pc104, pc105, trivial⟩) ⟨Try.f47, Try.func47, by kernel_rfl, by kernel_rfl⟩ fun x y h => w47 h

noncomputable def C48 : List AV → Option AV := specP (X := THeap × Unit) fun x => spec_l7Copy x.1
theorem C48_eq {h_} {y} (h : spec_l7Copy h_ = some y) : C48 [av .shr h_] = some (Res.res y) := specP_eq (X := THeap × Unit) (F := fun x => spec_l7Copy x.1) (x := (h_, ())) h
noncomputable def g48 : Cfg := { P := Try.prog, take := [], keep := [], gho := [], ctx := [] }
@[simp] theorem g48_P : g48.P = Try.prog := rfl
@[simp] theorem g48_t : g48.take = [] := rfl
@[simp] theorem g48_g : g48.gho = [] := rfl
set_option maxHeartbeats 4000000 in
set_option maxRecDepth 100000 in
theorem w48 {h_} {y} (hp : spec_l7Copy h_ = some y) : ∃ m, callo g48 0 48 [av .shr h_] mem0 = some (Res.res y, m) := by
  refine start_fn (Try.f48.body.getD .skip) [.cell 2 72] rfl rfl Try.func48 (by kernel_rfl) (by kernel_rfl) (by simp [Try.ntmps48]) rfl ?_
  unfold spec_l7Copy at hp
  obtain ⟨_, h_1, hp⟩ := bind_some hp
  have b_2 := room_ok h_1
  try simp at b_2
  obtain ⟨_, h_3, hp⟩ := bind_some hp
  have b_4 := room_ok h_3
  try simp at b_4
  cases hp
  simp [Try.f48, Goal, FnEnd, retR, rsrc, RSrc.val, nodupR, nodup, tupPart, b_2, b_4]
theorem pc48 : PC Try.prog 48 C48 := pc_of (g := g48) (fun f F h => by cases h) ⟨Try.f48, Try.func48, by kernel_rfl, by kernel_rfl⟩ fun x y h => w48 h

noncomputable def C9 : List AV → Option AV := specP (X := Int × Int × Unit) fun x => spec_SmallHeaps x.1 x.2.1
theorem C9_eq {vars cells} {y} (h : spec_SmallHeaps vars cells = some y) : C9 [av .shr vars, av .shr cells] = some (Res.res y) := specP_eq (X := Int × Int × Unit) (F := fun x => spec_SmallHeaps x.1 x.2.1) (x := (vars, cells, ())) h
noncomputable def g9 : Cfg := { P := Try.prog, take := [(9, 21), (9, 59), (9, 64)], keep := [((9, 5), { hd := [0, 1, 5, 6], bx := [11], ex := [5], rt := [4] }), ((9, 10), { hd := [0, 1, 5, 6, 7, 8, 9], bx := [11], ex := [0, 1, 5, 6], rt := [4] }), ((9, 13), { hd := [0, 1, 5, 6, 7, 8, 9, 10], bx := [11], ex := [0, 1, 5, 6, 7, 8, 9], rt := [4] })], gho := [], ctx := [(45, C45), (46, C46), (47, C47), (48, C48)] }
@[simp] theorem g9_P : g9.P = Try.prog := rfl
@[simp] theorem g9_t : g9.take = [(9, 21), (9, 59), (9, 64)] := rfl
@[simp] theorem g9_g : g9.gho = [] := rfl
@[simp] theorem g9_45 : lookN 45 g9.ctx = some C45 := rfl
@[simp] theorem g9_46 : lookN 46 g9.ctx = some C46 := rfl
@[simp] theorem g9_47 : lookN 47 g9.ctx = some C47 := rfl
@[simp] theorem g9_48 : lookN 48 g9.ctx = some C48 := rfl
set_option maxHeartbeats 4000000 in
set_option maxRecDepth 100000 in
theorem w9 {vars cells} {y} (hp : spec_SmallHeaps vars cells = some y) : ∃ m, callo g9 0 9 [av .shr vars, av .shr cells] mem0 = some (Res.res y, m) := by
  refine start_fn (Try.f9.body.getD .skip) [.tmp 4] rfl rfl Try.func9 (by kernel_rfl) (by kernel_rfl) (by simp [Try.ntmps9]) rfl ?_
  unfold spec_SmallHeaps at hp
  obtain ⟨y_1, h_2, hp⟩ := bind_some hp
  have c_3 := C45_eq h_2
  simp at c_3
  simp [Try.f9, c_3]
  rcases cond_cases hp with ⟨h_4, hp⟩ | ⟨h_4, hp⟩
  · try simp at h_4
    obtain ⟨y_5, h_6, hp⟩ := bind_some hp
    have c_7 := C45_eq h_6
    simp at c_7
    try simp [h_4, c_7]
    rcases cond_cases hp with ⟨h_8, hp⟩ | ⟨h_8, hp⟩
    · try simp at h_8
      try simp [h_4, h_8]
      obtain ⟨r_94, h_95, hp⟩ := bind_some hp
      obtain ⟨I_11, I_11_⟩ : ∃ I : (List THeap) × Int → St → Prop, I = (fun (s_9 : (List THeap) × Int) (σ : St) => σ.env 0 = .one (.s (.int .i64 vars)) ∧ σ.env 1 = .one (.s (.int .i64 cells)) ∧ σ.env 5 = .one (.l .own s_9.1.length (encL s_9.1)) ∧ σ.env 6 = .one (.s (.int .i64 s_9.2)) ∧ NoBox [] σ.mem) := ⟨_, rfl⟩
      obtain ⟨X_12, X_12_⟩ : ∃ X : (List THeap) → Out → Prop, X = (fun (r_94 : (List THeap)) (out : Out) => ∃ σ : St, out = .exit 0 σ ∧ σ.env 5 = .one (.l .own r_94.length (encL r_94)) ∧ NoBox [] σ.mem) := ⟨_, rfl⟩
      refine loopP ({ hd := [0, 1, 5, 6], bx := [11], ex := [5], rt := [4] }) I_11 X_12 h_95 (by exact rfl) ?_ ?_ ?_
      · rw [I_11_]
        exact ⟨by simp [restrict_env, h_4, h_8], by simp [restrict_env, h_4, h_8], by simp [restrict_env, h_4, h_8], by simp [restrict_env, h_4, h_8], NoBox.restrict (by intro k hk hb; simp at hk hb; simp [hk, hb, h_4, h_8])⟩
      · intro s_9 σ_13 a_10 hI hp
        rw [I_11_] at hI
        obtain ⟨q_14, q_15, q_16, q_17, hn_18⟩ := hI
        try simp [h_4, h_8, q_14, q_15, q_16, q_17]
        rcases cond_cases hp with ⟨h_19, hp⟩ | ⟨h_19, hp⟩
        · try simp at h_19
          obtain ⟨y_20, h_21, hp⟩ := bind_some hp
          have c_22 := C46_eq h_21
          simp at c_22
          obtain ⟨y_23, h_24, hp⟩ := bind_some hp
          have c_25 := C46_eq h_24
          simp at c_25
          try simp [h_4, h_8, q_14, q_15, q_16, q_17, h_19, c_22, c_25]
          obtain ⟨r_86, h_87, hp⟩ := bind_some hp
          obtain ⟨I_28, I_28_⟩ : ∃ I : (List THeap) × Int → St → Prop, I = (fun (s_26 : (List THeap) × Int) (σ : St) => σ.env 0 = .one (.s (.int .i64 vars)) ∧ σ.env 1 = .one (.s (.int .i64 cells)) ∧ σ.env 5 = .one (.l .own s_26.1.length (encL s_26.1)) ∧ σ.env 6 = .one (.s (.int .i64 s_9.2)) ∧ σ.env 7 = .one (.l .own y_20.length (encL y_20)) ∧ σ.env 8 = .one (.l .own y_23.length (encL y_23)) ∧ σ.env 9 = .one (.s (.int .i64 s_26.2)) ∧ NoBox [] σ.mem) := ⟨_, rfl⟩
          obtain ⟨X_29, X_29_⟩ : ∃ X : (List THeap) → Out → Prop, X = (fun (r_86 : (List THeap)) (out : Out) => ∃ σ : St, out = .exit 2 σ ∧ σ.env 0 = .one (.s (.int .i64 vars)) ∧ σ.env 1 = .one (.s (.int .i64 cells)) ∧ σ.env 5 = .one (.l .own r_86.length (encL r_86)) ∧ σ.env 6 = .one (.s (.int .i64 s_9.2)) ∧ NoBox [] σ.mem) := ⟨_, rfl⟩
          refine loopP ({ hd := [0, 1, 5, 6, 7, 8, 9], bx := [11], ex := [0, 1, 5, 6], rt := [4] }) I_28 X_29 h_87 (by exact rfl) ?_ ?_ ?_
          · rw [I_28_]
            exact ⟨by simp [restrict_env, h_4, h_8, q_14, q_15, q_16, q_17, h_19], by simp [restrict_env, h_4, h_8, q_14, q_15, q_16, q_17, h_19], by simp [restrict_env, h_4, h_8, q_14, q_15, q_16, q_17, h_19], by simp [restrict_env, h_4, h_8, q_14, q_15, q_16, q_17, h_19], by simp [restrict_env, h_4, h_8, q_14, q_15, q_16, q_17, h_19], by simp [restrict_env, h_4, h_8, q_14, q_15, q_16, q_17, h_19], by simp [restrict_env, h_4, h_8, q_14, q_15, q_16, q_17, h_19], NoBox.restrict (by intro k hk hb; simp at hk hb; simp [hk, hb, h_4, h_8, q_14, q_15, q_16, q_17, h_19, hn_18 k (by simp [hk, hb])])⟩
          · intro s_26 σ_30 a_27 hI hp
            rw [I_28_] at hI
            obtain ⟨q_31, q_32, q_33, q_34, q_35, q_36, q_37, hn_38⟩ := hI
            try simp [h_4, h_8, h_19, q_31, q_32, q_33, q_34, q_35, q_36, q_37]
            rcases cond_cases hp with ⟨h_39, hp⟩ | ⟨h_39, hp⟩
            · try simp at h_39
              try simp [h_4, h_8, h_19, q_31, q_32, q_33, q_34, q_35, q_36, q_37, h_39]
              obtain ⟨r_75, h_76, hp⟩ := bind_some hp
              obtain ⟨I_42, I_42_⟩ : ∃ I : (List THeap) × Int → St → Prop, I = (fun (s_40 : (List THeap) × Int) (σ : St) => σ.env 0 = .one (.s (.int .i64 vars)) ∧ σ.env 1 = .one (.s (.int .i64 cells)) ∧ σ.env 5 = .one (.l .own s_40.1.length (encL s_40.1)) ∧ σ.env 6 = .one (.s (.int .i64 s_9.2)) ∧ σ.env 7 = .one (.l .own y_20.length (encL y_20)) ∧ σ.env 8 = .one (.l .own y_23.length (encL y_23)) ∧ σ.env 9 = .one (.s (.int .i64 s_26.2)) ∧ σ.env 10 = .one (.s (.int .i64 s_40.2)) ∧ NoBox [] σ.mem) := ⟨_, rfl⟩
              obtain ⟨X_43, X_43_⟩ : ∃ X : (List THeap) → Out → Prop, X = (fun (r_75 : (List THeap)) (out : Out) => ∃ σ : St, out = .exit 4 σ ∧ σ.env 0 = .one (.s (.int .i64 vars)) ∧ σ.env 1 = .one (.s (.int .i64 cells)) ∧ σ.env 5 = .one (.l .own r_75.length (encL r_75)) ∧ σ.env 6 = .one (.s (.int .i64 s_9.2)) ∧ σ.env 7 = .one (.l .own y_20.length (encL y_20)) ∧ σ.env 8 = .one (.l .own y_23.length (encL y_23)) ∧ σ.env 9 = .one (.s (.int .i64 s_26.2)) ∧ NoBox [] σ.mem) := ⟨_, rfl⟩
              refine loopP ({ hd := [0, 1, 5, 6, 7, 8, 9, 10], bx := [11], ex := [0, 1, 5, 6, 7, 8, 9], rt := [4] }) I_42 X_43 h_76 (by exact rfl) ?_ ?_ ?_
              · rw [I_42_]
                exact ⟨by simp [restrict_env, h_4, h_8, h_19, q_31, q_32, q_33, q_34, q_35, q_36, q_37, h_39], by simp [restrict_env, h_4, h_8, h_19, q_31, q_32, q_33, q_34, q_35, q_36, q_37, h_39], by simp [restrict_env, h_4, h_8, h_19, q_31, q_32, q_33, q_34, q_35, q_36, q_37, h_39], by simp [restrict_env, h_4, h_8, h_19, q_31, q_32, q_33, q_34, q_35, q_36, q_37, h_39], by simp [restrict_env, h_4, h_8, h_19, q_31, q_32, q_33, q_34, q_35, q_36, q_37, h_39], by simp [restrict_env, h_4, h_8, h_19, q_31, q_32, q_33, q_34, q_35, q_36, q_37, h_39], by simp [restrict_env, h_4, h_8, h_19, q_31, q_32, q_33, q_34, q_35, q_36, q_37, h_39], by simp [restrict_env, h_4, h_8, h_19, q_31, q_32, q_33, q_34, q_35, q_36, q_37, h_39], NoBox.restrict (by intro k hk hb; simp at hk hb; simp [hk, hb, h_4, h_8, h_19, q_31, q_32, q_33, q_34, q_35, q_36, q_37, h_39, hn_38 k (by simp [hk, hb])])⟩
              · intro s_40 σ_44 a_41 hI hp
                rw [I_42_] at hI
                obtain ⟨q_45, q_46, q_47, q_48, q_49, q_50, q_51, q_52, hn_53⟩ := hI
                try simp [h_4, h_8, h_19, h_39, q_45, q_46, q_47, q_48, q_49, q_50, q_51, q_52]
                rcases cond_cases hp with ⟨h_54, hp⟩ | ⟨h_54, hp⟩
                · try simp at h_54
                  obtain ⟨e_55, h_56, hp⟩ := bind_some hp
                  have b_57 := at_lo h_56
                  have b_58 := at_hi h_56
                  try simp at b_57
                  try simp at b_58
                  have c_59 := seg_at' h_56 0 1 (by decide) (ds := [.sl e_55.length (encL e_55)]) rfl
                  try simp at c_59
                  obtain ⟨e_60, h_61, hp⟩ := bind_some hp
                  have b_62 := at_lo h_61
                  have b_63 := at_hi h_61
                  try simp at b_62
                  try simp at b_63
                  have c_64 := seg_at' h_61 0 1 (by decide) (ds := [.sl e_60.length (encL e_60)]) rfl
                  try simp at c_64
                  have n_65 := hn_53 (1, 11) (by simp)
                  obtain ⟨y_66, h_67, hp⟩ := bind_some hp
                  have c_68 := C47_eq h_67
                  simp at c_68
                  try simp [h_4, h_8, h_19, h_39, q_45, q_46, q_47, q_48, q_49, q_50, q_51, q_52, h_54, b_57, b_58, c_59, b_62, b_63, c_64, n_65, c_68]
                  rcases cond_cases hp with ⟨h_69, hp⟩ | ⟨h_69, hp⟩
                  · try simp at h_69
                    obtain ⟨y_70, h_71, hp⟩ := bind_some hp
                    have c_72 := C48_eq h_71
                    simp at c_72
                    obtain ⟨_, h_73, hp⟩ := bind_some hp
                    have b_74 := room_ok h_73
                    try simp at b_74
                    cases hp
                    try simp [h_4, h_8, h_19, h_39, q_45, q_46, q_47, q_48, q_49, q_50, q_51, q_52, h_54, h_69, c_72, b_74]
                    refine goal_next ?_
                    rw [I_42_]
                    exact ⟨by simp [restrict_env, h_4, h_8, h_19, h_39, q_45, q_46, q_47, q_48, q_49, q_50, q_51, q_52, h_54, h_69, c_72, b_74], by simp [restrict_env, h_4, h_8, h_19, h_39, q_45, q_46, q_47, q_48, q_49, q_50, q_51, q_52, h_54, h_69, c_72, b_74], by simp [restrict_env, h_4, h_8, h_19, h_39, q_45, q_46, q_47, q_48, q_49, q_50, q_51, q_52, h_54, h_69, c_72, b_74], by simp [restrict_env, h_4, h_8, h_19, h_39, q_45, q_46, q_47, q_48, q_49, q_50, q_51, q_52, h_54, h_69, c_72, b_74], by simp [restrict_env, h_4, h_8, h_19, h_39, q_45, q_46, q_47, q_48, q_49, q_50, q_51, q_52, h_54, h_69, c_72, b_74], by simp [restrict_env, h_4, h_8, h_19, h_39, q_45, q_46, q_47, q_48, q_49, q_50, q_51, q_52, h_54, h_69, c_72, b_74], by simp [restrict_env, h_4, h_8, h_19, h_39, q_45, q_46, q_47, q_48, q_49, q_50, q_51, q_52, h_54, h_69, c_72, b_74], by simp [restrict_env, h_4, h_8, h_19, h_39, q_45, q_46, q_47, q_48, q_49, q_50, q_51, q_52, h_54, h_69, c_72, b_74], NoBox.restrict (by intro k hk hb; simp at hk hb; simp [hk, hb, h_4, h_8, h_19, h_39, q_45, q_46, q_47, q_48, q_49, q_50, q_51, q_52, h_54, h_69, c_72, b_74, hn_53 k (by simp [hk, hb])])⟩
                  · try simp at h_69
                    cases hp
                    try simp [h_4, h_8, h_19, h_39, q_45, q_46, q_47, q_48, q_49, q_50, q_51, q_52, h_54, h_69]
                    refine goal_next ?_
                    rw [I_42_]
                    exact ⟨by simp [restrict_env, h_4, h_8, h_19, h_39, q_45, q_46, q_47, q_48, q_49, q_50, q_51, q_52, h_54, h_69], by simp [restrict_env, h_4, h_8, h_19, h_39, q_45, q_46, q_47, q_48, q_49, q_50, q_51, q_52, h_54, h_69], by simp [restrict_env, h_4, h_8, h_19, h_39, q_45, q_46, q_47, q_48, q_49, q_50, q_51, q_52, h_54, h_69], by simp [restrict_env, h_4, h_8, h_19, h_39, q_45, q_46, q_47, q_48, q_49, q_50, q_51, q_52, h_54, h_69], by simp [restrict_env, h_4, h_8, h_19, h_39, q_45, q_46, q_47, q_48, q_49, q_50, q_51, q_52, h_54, h_69], by simp [restrict_env, h_4, h_8, h_19, h_39, q_45, q_46, q_47, q_48, q_49, q_50, q_51, q_52, h_54, h_69], by simp [restrict_env, h_4, h_8, h_19, h_39, q_45, q_46, q_47, q_48, q_49, q_50, q_51, q_52, h_54, h_69], by simp [restrict_env, h_4, h_8, h_19, h_39, q_45, q_46, q_47, q_48, q_49, q_50, q_51, q_52, h_54, h_69], NoBox.restrict (by intro k hk hb; simp at hk hb; simp [hk, hb, h_4, h_8, h_19, h_39, q_45, q_46, q_47, q_48, q_49, q_50, q_51, q_52, h_54, h_69, hn_53 k (by simp [hk, hb])])⟩
                · try simp at h_54
                  cases hp
                  try simp [h_4, h_8, h_19, h_39, q_45, q_46, q_47, q_48, q_49, q_50, q_51, q_52, h_54]
                  refine goal_outX ?_
                  rw [X_43_]
                  exact ⟨_, rfl, by simp [restrict_env, h_4, h_8, h_19, h_39, q_45, q_46, q_47, q_48, q_49, q_50, q_51, q_52, h_54], by simp [restrict_env, h_4, h_8, h_19, h_39, q_45, q_46, q_47, q_48, q_49, q_50, q_51, q_52, h_54], by simp [restrict_env, h_4, h_8, h_19, h_39, q_45, q_46, q_47, q_48, q_49, q_50, q_51, q_52, h_54], by simp [restrict_env, h_4, h_8, h_19, h_39, q_45, q_46, q_47, q_48, q_49, q_50, q_51, q_52, h_54], by simp [restrict_env, h_4, h_8, h_19, h_39, q_45, q_46, q_47, q_48, q_49, q_50, q_51, q_52, h_54], by simp [restrict_env, h_4, h_8, h_19, h_39, q_45, q_46, q_47, q_48, q_49, q_50, q_51, q_52, h_54], by simp [restrict_env, h_4, h_8, h_19, h_39, q_45, q_46, q_47, q_48, q_49, q_50, q_51, q_52, h_54], NoBox.restrict (by intro k hk hb; simp at hk hb; simp [hk, hb, h_4, h_8, h_19, h_39, q_45, q_46, q_47, q_48, q_49, q_50, q_51, q_52, h_54, hn_53 k (by simp [hk, hb])])⟩
              · intro out hX
                rw [X_43_] at hX
                obtain ⟨σ_77, rfl, q_78, q_79, q_80, q_81, q_82, q_83, q_84, hn_85⟩ := hX
                cases hp
                try simp [h_4, h_8, h_19, h_39, q_78, q_79, q_80, q_81, q_82, q_83, q_84]
                refine goal_next ?_
                rw [I_28_]
                exact ⟨by simp [restrict_env, h_4, h_8, h_19, h_39, q_78, q_79, q_80, q_81, q_82, q_83, q_84], by simp [restrict_env, h_4, h_8, h_19, h_39, q_78, q_79, q_80, q_81, q_82, q_83, q_84], by simp [restrict_env, h_4, h_8, h_19, h_39, q_78, q_79, q_80, q_81, q_82, q_83, q_84], by simp [restrict_env, h_4, h_8, h_19, h_39, q_78, q_79, q_80, q_81, q_82, q_83, q_84], by simp [restrict_env, h_4, h_8, h_19, h_39, q_78, q_79, q_80, q_81, q_82, q_83, q_84], by simp [restrict_env, h_4, h_8, h_19, h_39, q_78, q_79, q_80, q_81, q_82, q_83, q_84], by simp [restrict_env, h_4, h_8, h_19, h_39, q_78, q_79, q_80, q_81, q_82, q_83, q_84], NoBox.restrict (by intro k hk hb; simp at hk hb; simp [hk, hb, h_4, h_8, h_19, h_39, q_78, q_79, q_80, q_81, q_82, q_83, q_84, hn_85 k (by simp [hk, hb])])⟩
            · try simp at h_39
              cases hp
              try simp [h_4, h_8, h_19, q_31, q_32, q_33, q_34, q_35, q_36, q_37, h_39]
              refine goal_outX ?_
              rw [X_29_]
              exact ⟨_, rfl, by simp [restrict_env, h_4, h_8, h_19, q_31, q_32, q_33, q_34, q_35, q_36, q_37, h_39], by simp [restrict_env, h_4, h_8, h_19, q_31, q_32, q_33, q_34, q_35, q_36, q_37, h_39], by simp [restrict_env, h_4, h_8, h_19, q_31, q_32, q_33, q_34, q_35, q_36, q_37, h_39], by simp [restrict_env, h_4, h_8, h_19, q_31, q_32, q_33, q_34, q_35, q_36, q_37, h_39], NoBox.restrict (by intro k hk hb; simp at hk hb; simp [hk, hb, h_4, h_8, h_19, q_31, q_32, q_33, q_34, q_35, q_36, q_37, h_39, hn_38 k (by simp [hk, hb])])⟩
          · intro out hX
            rw [X_29_] at hX
            obtain ⟨σ_88, rfl, q_89, q_90, q_91, q_92, hn_93⟩ := hX
            cases hp
            try simp [h_4, h_8, h_19, q_89, q_90, q_91, q_92]
            refine goal_next ?_
            rw [I_11_]
            exact ⟨by simp [restrict_env, h_4, h_8, h_19, q_89, q_90, q_91, q_92], by simp [restrict_env, h_4, h_8, h_19, q_89, q_90, q_91, q_92], by simp [restrict_env, h_4, h_8, h_19, q_89, q_90, q_91, q_92], by simp [restrict_env, h_4, h_8, h_19, q_89, q_90, q_91, q_92], NoBox.restrict (by intro k hk hb; simp at hk hb; simp [hk, hb, h_4, h_8, h_19, q_89, q_90, q_91, q_92, hn_93 k (by simp [hk, hb])])⟩
        · try simp at h_19
          cases hp
          try simp [h_4, h_8, q_14, q_15, q_16, q_17, h_19]
          refine goal_outX ?_
          rw [X_12_]
          exact ⟨_, rfl, by simp [restrict_env, h_4, h_8, q_14, q_15, q_16, q_17, h_19], NoBox.restrict (by intro k hk hb; simp at hk hb; simp [hk, hb, h_4, h_8, q_14, q_15, q_16, q_17, h_19, hn_18 k (by simp [hk, hb])])⟩
      · intro out hX
        rw [X_12_] at hX
        obtain ⟨σ_96, rfl, q_97, hn_98⟩ := hX
        cases hp
        simp [Goal, FnEnd, h_4, h_8, q_97]
    · try simp at h_8
      cases hp
      simp [Goal, FnEnd, h_4, h_8]
  · try simp at h_4
    cases hp
    simp [Goal, FnEnd, h_4]
theorem pc9 : PC Try.prog 9 C9 := pc_of (g := g9) (ctxOK_of [(45, C45), (46, C46), (47, C47), (48, C48)] rfl ⟨pc45, pc46, pc47, pc48, trivial⟩) ⟨Try.f9, Try.func9, by kernel_rfl, by kernel_rfl⟩ fun x y h => w9 h
end Go.Proofs
