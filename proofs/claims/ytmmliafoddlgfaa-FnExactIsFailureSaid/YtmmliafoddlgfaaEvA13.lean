import Derived.Test.YtmmliafoddlgfaaEvA12
set_option linter.unusedSimpArgs false
set_option linter.unusedVariables false
set_option linter.unnecessarySimpa false
namespace Go.Proofs
open Go.Ev
noncomputable def C29 : List AV → Option AV := specP (X := TProgram × Unit) fun x => spec_IsProgram x.1
theorem C29_eq {p_} {y} (h : spec_IsProgram p_ = some y) : C29 [av .shr p_] = some (Res.res y) := specP_eq (X := TProgram × Unit) (F := fun x => spec_IsProgram x.1) (x := (p_, ())) h
noncomputable def g29 : Cfg := { P := Try.prog, take := [], keep := [((29, 2), { hd := [1, 3], bx := [4], ex := [1], rt := [2] })], gho := [], ctx := [(32, C32), (42, C42), (43, C43)] }
@[simp] theorem g29_P : g29.P = Try.prog := rfl
@[simp] theorem g29_t : g29.take = [] := rfl
@[simp] theorem g29_g : g29.gho = [] := rfl
@[simp] theorem g29_r : g29.ro = [] := rfl
@[simp] theorem g29_w : g29.away = [] ∧ g29.give = [] ∧ g29.octx = [] := by rw [g29]; exact ⟨rfl, rfl, rfl⟩
@[simp] theorem g29_32 : lookN 32 g29.ctx = some C32 := rfl
@[simp] theorem g29_42 : lookN 42 g29.ctx = some C42 := rfl
@[simp] theorem g29_43 : lookN 43 g29.ctx = some C43 := rfl
set_option maxHeartbeats 4000000 in
set_option maxRecDepth 100000 in
theorem w29 {p_} {y} (hp : spec_IsProgram p_ = some y) : ∃ m, callo g29 0 29 [av .shr p_] mem0 = some (Res.res y, m) := by
  refine start_fn (Try.f29.body.getD .skip) [.tmp 2] rfl rfl Try.func29 (by kernel_rfl) (by kernel_rfl) (by simp [Try.ntmps29]) rfl ?_
  unfold spec_IsProgram at hp
  simp [Try.f29]
  obtain ⟨r_29, h_30, hp⟩ := bind_some hp
  obtain ⟨I_3, I_3_⟩ : ∃ I : Int → St → Prop, I = (fun (s_1 : Int) (σ : St) => σ.env 1 = .one (.ptr (1, 1) 0) ∧ σ.env 3 = .one (.s (.int .i64 s_1)) ∧ σ.mem (1, 1) = some [(.l .shr p_.vars.length (encL p_.vars)), (.s (.int .i64 p_.points)), (.l .shr p_.edges.length (encL p_.edges))] ∧ NoBox [(1, 1)] σ.mem) := ⟨_, rfl⟩
  obtain ⟨X_4, X_4_⟩ : ∃ X : ((Unit) ⊕ (Unit)) → Out → Prop, X = (fun (r_29 : (Unit) ⊕ (Unit)) (out : Out) => Sum.elim (fun r_29 => ∃ σ : St, out = .ret σ ∧ σ.env 2 = .one (.s (.bool false)) ∧ σ.mem (1, 1) = some [(.l .shr p_.vars.length (encL p_.vars)), (.s (.int .i64 p_.points)), (.l .shr p_.edges.length (encL p_.edges))] ∧ NoBox [(1, 1)] σ.mem) (fun r_29 => ∃ σ : St, out = .exit 0 σ ∧ σ.env 1 = .one (.ptr (1, 1) 0) ∧ σ.mem (1, 1) = some [(.l .shr p_.vars.length (encL p_.vars)), (.s (.int .i64 p_.points)), (.l .shr p_.edges.length (encL p_.edges))] ∧ NoBox [(1, 1)] σ.mem) r_29) := ⟨_, rfl⟩
  refine loopP ({ hd := [1, 3], bx := [4], ex := [1], rt := [2] }) I_3 X_4 h_30 (by exact rfl) ?_ ?_ ?_
  · rw [I_3_]
    refine ⟨?_, ?_, ?_, NoBox.restrict (by intro k hk hb; simp at hk hb; simp [hk, hb])⟩ <;> simp [restrict_env, restrict_mem]
  · intro s_1 σ_5 a_2 hI hp
    rw [I_3_] at hI
    obtain ⟨q_6, q_7, q_8, hn_9⟩ := hI
    try simp [q_6, q_7, q_8]
    rcases cond_cases hp with ⟨h_10, hp⟩ | ⟨h_10, hp⟩
    · try simp at h_10
      obtain ⟨e_11, h_12, hp⟩ := bind_some hp
      have b_13 := at_lo h_12
      have b_14 := at_hi h_12
      try simp at b_13
      try simp at b_14
      have c_15 := seg_at' h_12 0 5 (by decide) (ds := [.sc (.int .i64 e_11.from_), .sc (.int .i64 e_11.to_), .sc (.int .i64 e_11.stmt.kind), .sc (.string e_11.stmt.a), .sc (.string e_11.stmt.b)]) rfl
      try simp at c_15
      have n_16 := hn_9 (1, 4) (by simp)
      obtain ⟨y_17, h_18, hp⟩ := bind_some hp
      have c_19 := C32_eq h_18
      simp at c_19
      try simp [q_6, q_7, q_8, h_10, b_13, b_14, c_15, n_16, c_19]
      rcases cond_cases hp with ⟨h_20, hp⟩ | ⟨h_20, hp⟩
      · try simp at h_20
        obtain ⟨y_21, h_22, hp⟩ := bind_some hp
        have c_23 := C32_eq h_22
        simp at c_23
        try simp [q_6, q_7, q_8, h_10, h_20, c_23]
        rcases cond_cases hp with ⟨h_24, hp⟩ | ⟨h_24, hp⟩
        · try simp at h_24
          obtain ⟨y_25, h_26, hp⟩ := bind_some hp
          have c_27 := C42_eq h_26
          simp at c_27
          try simp [q_6, q_7, q_8, h_10, h_20, h_24, c_27]
          rcases cond_cases hp with ⟨h_28, hp⟩ | ⟨h_28, hp⟩
          · try simp at h_28
            cases hp
            try simp [q_6, q_7, q_8, h_10, h_20, h_24, h_28]
            refine goal_next ?_
            rw [I_3_]
            refine ⟨?_, ?_, ?_, NoBox.restrict (by intro k hk hb; simp at hk hb; simp [hk, hb, q_6, q_7, q_8, h_10, h_20, h_24, h_28, hn_9 k (by simp [hk, hb])])⟩ <;> simp [restrict_env, restrict_mem, q_6, q_7, q_8, h_10, h_20, h_24, h_28]
          · try simp at h_28
            cases hp
            try simp [q_6, q_7, q_8, h_10, h_20, h_24, h_28]
            refine goal_outR ?_
            rw [X_4_]
            refine ⟨_, rfl, ?_, ?_, NoBox.restrict (by intro k hk hb; simp at hk hb; simp [hk, hb, q_6, q_7, q_8, h_10, h_20, h_24, h_28, hn_9 k (by simp [hk, hb])])⟩ <;> simp [restrict_env, restrict_mem, q_6, q_7, q_8, h_10, h_20, h_24, h_28]
        · try simp at h_24
          cases hp
          try simp [q_6, q_7, q_8, h_10, h_20, h_24]
          refine goal_outR ?_
          rw [X_4_]
          refine ⟨_, rfl, ?_, ?_, NoBox.restrict (by intro k hk hb; simp at hk hb; simp [hk, hb, q_6, q_7, q_8, h_10, h_20, h_24, hn_9 k (by simp [hk, hb])])⟩ <;> simp [restrict_env, restrict_mem, q_6, q_7, q_8, h_10, h_20, h_24]
      · try simp at h_20
        cases hp
        try simp [q_6, q_7, q_8, h_10, h_20]
        refine goal_outR ?_
        rw [X_4_]
        refine ⟨_, rfl, ?_, ?_, NoBox.restrict (by intro k hk hb; simp at hk hb; simp [hk, hb, q_6, q_7, q_8, h_10, h_20, hn_9 k (by simp [hk, hb])])⟩ <;> simp [restrict_env, restrict_mem, q_6, q_7, q_8, h_10, h_20]
    · try simp at h_10
      cases hp
      try simp [q_6, q_7, q_8, h_10]
      refine goal_outX ?_
      rw [X_4_]
      refine ⟨_, rfl, ?_, ?_, NoBox.restrict (by intro k hk hb; simp at hk hb; simp [hk, hb, q_6, q_7, q_8, h_10, hn_9 k (by simp [hk, hb])])⟩ <;> simp [restrict_env, restrict_mem, q_6, q_7, q_8, h_10]
  · intro out hX
    rw [X_4_] at hX
    rcases r_29 with r_29 | r_29
    · simp only [Sum.elim_inl, Sum.elim_inr] at hX hp
      obtain ⟨σ_31, rfl, q_32, q_33, hn_34⟩ := hX
      cases hp
      simp [Goal, FnEnd, q_32, q_33]
    · simp only [Sum.elim_inl, Sum.elim_inr] at hX hp
      obtain ⟨σ_35, rfl, q_36, q_37, hn_38⟩ := hX
      obtain ⟨y_39, h_40, hp⟩ := bind_some hp
      have c_41 := C43_eq h_40
      simp at c_41
      try simp [q_36, q_37, c_41]
      rcases cond_cases hp with ⟨h_42, hp⟩ | ⟨h_42, hp⟩
      · try simp at h_42
        obtain ⟨y_43, h_44, hp⟩ := bind_some hp
        have c_45 := C32_eq h_44
        simp at c_45
        try simp [q_36, q_37, h_42, c_45]
        rcases cond_cases hp with ⟨h_46, hp⟩ | ⟨h_46, hp⟩
        · try simp at h_46
          cases hp
          simp [Goal, FnEnd, q_36, q_37, h_42, h_46]
        · try simp at h_46
          cases hp
          simp [Goal, FnEnd, q_36, q_37, h_42, h_46]
      · try simp at h_42
        cases hp
        simp [Goal, FnEnd, q_36, q_37, h_42]
theorem pc29 : PC Try.prog 29 C29 := pc_of (g := g29) (ctxOK_of [(32, C32), (42, C42), (43, C43)] rfl ⟨pc32, pc42, pc43, trivial⟩) ⟨Try.f29, Try.func29, by kernel_rfl, by kernel_rfl⟩ fun x y h => w29 h

noncomputable def C44 : List AV → Option AV := specP (X := THeap × Unit) fun x => spec_l7Cells x.1
theorem C44_eq {h_} {y} (h : spec_l7Cells h_ = some y) : C44 [av .shr h_] = some (Res.res y) := specP_eq (X := THeap × Unit) (F := fun x => spec_l7Cells x.1) (x := (h_, ())) h
noncomputable def g44 : Cfg := { P := Try.prog, take := [], keep := [((44, 2), { hd := [1, 3], bx := [], ex := [1], rt := [2] }), ((44, 7), { hd := [1, 4], bx := [], ex := [], rt := [2] })], gho := [], ctx := [(32, C32)] }
@[simp] theorem g44_P : g44.P = Try.prog := rfl
@[simp] theorem g44_t : g44.take = [] := rfl
@[simp] theorem g44_g : g44.gho = [] := rfl
@[simp] theorem g44_r : g44.ro = [] := rfl
@[simp] theorem g44_w : g44.away = [] ∧ g44.give = [] ∧ g44.octx = [] := by rw [g44]; exact ⟨rfl, rfl, rfl⟩
@[simp] theorem g44_32 : lookN 32 g44.ctx = some C32 := rfl
set_option maxHeartbeats 4000000 in
set_option maxRecDepth 100000 in
theorem w44 {h_} {y} (hp : spec_l7Cells h_ = some y) : ∃ m, callo g44 0 44 [av .shr h_] mem0 = some (Res.res y, m) := by
  refine start_fn (Try.f44.body.getD .skip) [.tmp 2] rfl rfl Try.func44 (by kernel_rfl) (by kernel_rfl) (by simp [Try.ntmps44]) rfl ?_
  unfold spec_l7Cells at hp
  simp [Try.f44]
  obtain ⟨r_20, h_21, hp⟩ := bind_some hp
  obtain ⟨I_3, I_3_⟩ : ∃ I : Int → St → Prop, I = (fun (s_1 : Int) (σ : St) => σ.env 1 = .one (.ptr (1, 1) 0) ∧ σ.env 3 = .one (.s (.int .i64 s_1)) ∧ σ.mem (1, 1) = some [(.l .shr h_.vars.length (encL h_.vars)), (.l .shr h_.next.length (encL h_.next))] ∧ NoBox [(1, 1)] σ.mem) := ⟨_, rfl⟩
  obtain ⟨X_4, X_4_⟩ : ∃ X : ((Unit) ⊕ (Unit)) → Out → Prop, X = (fun (r_20 : (Unit) ⊕ (Unit)) (out : Out) => Sum.elim (fun r_20 => ∃ σ : St, out = .ret σ ∧ σ.env 2 = .one (.s (.bool false)) ∧ σ.mem (1, 1) = some [(.l .shr h_.vars.length (encL h_.vars)), (.l .shr h_.next.length (encL h_.next))] ∧ NoBox [(1, 1)] σ.mem) (fun r_20 => ∃ σ : St, out = .exit 0 σ ∧ σ.env 1 = .one (.ptr (1, 1) 0) ∧ σ.mem (1, 1) = some [(.l .shr h_.vars.length (encL h_.vars)), (.l .shr h_.next.length (encL h_.next))] ∧ NoBox [(1, 1)] σ.mem) r_20) := ⟨_, rfl⟩
  refine loopP ({ hd := [1, 3], bx := [], ex := [1], rt := [2] }) I_3 X_4 h_21 (by exact rfl) ?_ ?_ ?_
  · rw [I_3_]
    refine ⟨?_, ?_, ?_, NoBox.restrict (by intro k hk hb; simp at hk hb; simp [hk, hb])⟩ <;> simp [restrict_env, restrict_mem]
  · intro s_1 σ_5 a_2 hI hp
    rw [I_3_] at hI
    obtain ⟨q_6, q_7, q_8, hn_9⟩ := hI
    try simp [q_6, q_7, q_8]
    rcases cond_cases hp with ⟨h_10, hp⟩ | ⟨h_10, hp⟩
    · try simp at h_10
      obtain ⟨e_11, h_12, hp⟩ := bind_some hp
      have b_13 := at_lo h_12
      have b_14 := at_hi h_12
      try simp at b_13
      try simp at b_14
      have c_15 := seg_at' h_12 0 1 (by decide) (ds := [.sc (.int .i64 e_11)]) rfl
      try simp at c_15
      obtain ⟨y_16, h_17, hp⟩ := bind_some hp
      have c_18 := C32_eq h_17
      simp at c_18
      try simp [q_6, q_7, q_8, h_10, b_13, b_14, c_15, c_18]
      rcases cond_cases hp with ⟨h_19, hp⟩ | ⟨h_19, hp⟩
      · try simp at h_19
        cases hp
        try simp [q_6, q_7, q_8, h_10, h_19]
        refine goal_next ?_
        rw [I_3_]
        refine ⟨?_, ?_, ?_, NoBox.restrict (by intro k hk hb; simp at hk hb; simp [hk, hb, q_6, q_7, q_8, h_10, h_19, hn_9 k (by simp [hk, hb])])⟩ <;> simp [restrict_env, restrict_mem, q_6, q_7, q_8, h_10, h_19]
      · try simp at h_19
        cases hp
        try simp [q_6, q_7, q_8, h_10, h_19]
        refine goal_outR ?_
        rw [X_4_]
        refine ⟨_, rfl, ?_, ?_, NoBox.restrict (by intro k hk hb; simp at hk hb; simp [hk, hb, q_6, q_7, q_8, h_10, h_19, hn_9 k (by simp [hk, hb])])⟩ <;> simp [restrict_env, restrict_mem, q_6, q_7, q_8, h_10, h_19]
    · try simp at h_10
      cases hp
      try simp [q_6, q_7, q_8, h_10]
      refine goal_outX ?_
      rw [X_4_]
      refine ⟨_, rfl, ?_, ?_, NoBox.restrict (by intro k hk hb; simp at hk hb; simp [hk, hb, q_6, q_7, q_8, h_10, hn_9 k (by simp [hk, hb])])⟩ <;> simp [restrict_env, restrict_mem, q_6, q_7, q_8, h_10]
  · intro out hX
    rw [X_4_] at hX
    rcases r_20 with r_20 | r_20
    · simp only [Sum.elim_inl, Sum.elim_inr] at hX hp
      obtain ⟨σ_22, rfl, q_23, q_24, hn_25⟩ := hX
      cases hp
      simp [Goal, FnEnd, q_23, q_24]
    · simp only [Sum.elim_inl, Sum.elim_inr] at hX hp
      obtain ⟨σ_26, rfl, q_27, q_28, hn_29⟩ := hX
      try simp [q_27, q_28]
      obtain ⟨r_49, h_50, hp⟩ := bind_some hp
      obtain ⟨I_32, I_32_⟩ : ∃ I : Int → St → Prop, I = (fun (s_30 : Int) (σ : St) => σ.env 1 = .one (.ptr (1, 1) 0) ∧ σ.env 4 = .one (.s (.int .i64 s_30)) ∧ σ.mem (1, 1) = some [(.l .shr h_.vars.length (encL h_.vars)), (.l .shr h_.next.length (encL h_.next))] ∧ NoBox [(1, 1)] σ.mem) := ⟨_, rfl⟩
      obtain ⟨X_33, X_33_⟩ : ∃ X : ((Bool) ⊕ (Unit)) → Out → Prop, X = (fun (r_49 : (Bool) ⊕ (Unit)) (out : Out) => Sum.elim (fun r_49 => ∃ σ : St, out = .ret σ ∧ σ.env 2 = .one (.s (.bool r_49)) ∧ σ.mem (1, 1) = some [(.l .shr h_.vars.length (encL h_.vars)), (.l .shr h_.next.length (encL h_.next))] ∧ NoBox [(1, 1)] σ.mem) (fun r_49 => ∃ σ : St, out = .exit 2 σ ∧ σ.mem (1, 1) = some [(.l .shr h_.vars.length (encL h_.vars)), (.l .shr h_.next.length (encL h_.next))] ∧ NoBox [(1, 1)] σ.mem) r_49) := ⟨_, rfl⟩
      refine loopP ({ hd := [1, 4], bx := [], ex := [], rt := [2] }) I_32 X_33 h_50 (by exact rfl) ?_ ?_ ?_
      · rw [I_32_]
        refine ⟨?_, ?_, ?_, NoBox.restrict (by intro k hk hb; simp at hk hb; simp [hk, hb, q_27, q_28, hn_29 k (by simp [hk, hb])])⟩ <;> simp [restrict_env, restrict_mem, q_27, q_28]
      · intro s_30 σ_34 a_31 hI hp
        rw [I_32_] at hI
        obtain ⟨q_35, q_36, q_37, hn_38⟩ := hI
        try simp [q_35, q_36, q_37]
        rcases cond_cases hp with ⟨h_39, hp⟩ | ⟨h_39, hp⟩
        · try simp at h_39
          obtain ⟨e_40, h_41, hp⟩ := bind_some hp
          have b_42 := at_lo h_41
          have b_43 := at_hi h_41
          try simp at b_42
          try simp at b_43
          have c_44 := seg_at' h_41 0 1 (by decide) (ds := [.sc (.int .i64 e_40)]) rfl
          try simp at c_44
          obtain ⟨y_45, h_46, hp⟩ := bind_some hp
          have c_47 := C32_eq h_46
          simp at c_47
          try simp [q_35, q_36, q_37, h_39, b_42, b_43, c_44, c_47]
          rcases cond_cases hp with ⟨h_48, hp⟩ | ⟨h_48, hp⟩
          · try simp at h_48
            cases hp
            try simp [q_35, q_36, q_37, h_39, h_48]
            refine goal_next ?_
            rw [I_32_]
            refine ⟨?_, ?_, ?_, NoBox.restrict (by intro k hk hb; simp at hk hb; simp [hk, hb, q_35, q_36, q_37, h_39, h_48, hn_38 k (by simp [hk, hb])])⟩ <;> simp [restrict_env, restrict_mem, q_35, q_36, q_37, h_39, h_48]
          · try simp at h_48
            cases hp
            try simp [q_35, q_36, q_37, h_39, h_48]
            refine goal_outR ?_
            rw [X_33_]
            refine ⟨_, rfl, ?_, ?_, NoBox.restrict (by intro k hk hb; simp at hk hb; simp [hk, hb, q_35, q_36, q_37, h_39, h_48, hn_38 k (by simp [hk, hb])])⟩ <;> simp [restrict_env, restrict_mem, q_35, q_36, q_37, h_39, h_48]
        · try simp at h_39
          cases hp
          try simp [q_35, q_36, q_37, h_39]
          refine goal_outX ?_
          rw [X_33_]
          exact ⟨_, rfl, by simp [restrict_mem, q_35, q_36, q_37, h_39], NoBox.restrict (by intro k hk hb; simp at hk hb; simp [hk, hb, q_35, q_36, q_37, h_39, hn_38 k (by simp [hk, hb])])⟩
      · intro out hX
        rw [X_33_] at hX
        rcases r_49 with r_49 | r_49
        · simp only [Sum.elim_inl, Sum.elim_inr] at hX hp
          obtain ⟨σ_51, rfl, q_52, q_53, hn_54⟩ := hX
          cases hp
          simp [Goal, FnEnd, q_52, q_53]
        · simp only [Sum.elim_inl, Sum.elim_inr] at hX hp
          obtain ⟨σ_55, rfl, q_56, hn_57⟩ := hX
          cases hp
          simp [Goal, FnEnd, q_56]
theorem pc44 : PC Try.prog 44 C44 := pc_of (g := g44) (ctxOK_of [(32, C32)] rfl ⟨pc32, trivial⟩) ⟨Try.f44, Try.func44, by kernel_rfl, by kernel_rfl⟩ fun x y h => w44 h

noncomputable def C95 : List AV → Option AV := specP (X := (List Int) × Int × Unit) fun x => spec_Positions x.1 x.2.1
theorem C95_eq {list n_} {y} (h : spec_Positions list n_ = some y) : C95 [av .shr list, av .shr n_] = some (Res.res y) := specP_eq (X := (List Int) × Int × Unit) (F := fun x => spec_Positions x.1 x.2.1) (x := (list, n_, ())) h
noncomputable def g95 : Cfg := { P := Try.prog, take := [(95, 20), (95, 24)], keep := [((95, 3), { hd := [0, 1, 5, 6], bx := [], ex := [5], rt := [4] })], gho := [], ctx := [] }
@[simp] theorem g95_P : g95.P = Try.prog := rfl
@[simp] theorem g95_t : g95.take = [(95, 20), (95, 24)] := rfl
@[simp] theorem g95_g : g95.gho = [] := rfl
@[simp] theorem g95_r : g95.ro = [] := rfl
@[simp] theorem g95_w : g95.away = [] ∧ g95.give = [] ∧ g95.octx = [] := by rw [g95]; exact ⟨rfl, rfl, rfl⟩
set_option maxHeartbeats 4000000 in
set_option maxRecDepth 100000 in
theorem w95 {list n_} {y} (hp : spec_Positions list n_ = some y) : ∃ m, callo g95 0 95 [av .shr list, av .shr n_] mem0 = some (Res.res y, m) := by
  refine start_fn (Try.f95.body.getD .skip) [.tmp 4] rfl rfl Try.func95 (by kernel_rfl) (by kernel_rfl) (by simp [Try.ntmps95]) rfl ?_
  unfold spec_Positions at hp
  simp [Try.f95]
  obtain ⟨r_20, h_21, hp⟩ := bind_some hp
  obtain ⟨I_3, I_3_⟩ : ∃ I : (List Int) × Int → St → Prop, I = (fun (s_1 : (List Int) × Int) (σ : St) => σ.env 0 = .one (.l .shr list.length (encL list)) ∧ σ.env 1 = .one (.s (.int .i64 n_)) ∧ σ.env 5 = .one (.l .own s_1.1.length (encL s_1.1)) ∧ σ.env 6 = .one (.s (.int .i64 s_1.2)) ∧ σ.mem = mem0) := ⟨_, rfl⟩
  obtain ⟨X_4, X_4_⟩ : ∃ X : (List Int) → Out → Prop, X = (fun (r_20 : (List Int)) (out : Out) => ∃ σ : St, out = .exit 0 σ ∧ σ.env 5 = .one (.l .own r_20.length (encL r_20)) ∧ σ.mem = mem0) := ⟨_, rfl⟩
  refine loopP ({ hd := [0, 1, 5, 6], bx := [], ex := [5], rt := [4] }) I_3 X_4 h_21 (by exact rfl) ?_ ?_ ?_
  · rw [I_3_]
    refine ⟨?_, ?_, ?_, ?_, ?_⟩ <;> simp [restrict_env, restrict_mem]
  · intro s_1 σ_5 a_2 hI hp
    rw [I_3_] at hI
    obtain ⟨q_6, q_7, q_8, q_9, q_10⟩ := hI
    try simp [q_6, q_7, q_8, q_9, q_10]
    rcases cond_cases hp with ⟨h_11, hp⟩ | ⟨h_11, hp⟩
    · try simp at h_11
      obtain ⟨e_12, h_13, hp⟩ := bind_some hp
      have b_14 := at_lo h_13
      have b_15 := at_hi h_13
      try simp at b_14
      try simp at b_15
      have c_16 := seg_at' h_13 0 1 (by decide) (ds := [.sc (.int .i64 e_12)]) rfl
      try simp at c_16
      try simp [q_6, q_7, q_8, q_9, q_10, h_11, b_14, b_15, c_16]
      rcases cond_cases hp with ⟨h_17, hp⟩ | ⟨h_17, hp⟩
      · try simp at h_17
        obtain ⟨_, h_18, hp⟩ := bind_some hp
        have b_19 := room_ok h_18
        try simp at b_19
        cases hp
        try simp [q_6, q_7, q_8, q_9, q_10, h_11, h_17, b_19]
        refine goal_next ?_
        rw [I_3_]
        refine ⟨?_, ?_, ?_, ?_, ?_⟩ <;> simp [restrict_env, restrict_mem, q_6, q_7, q_8, q_9, q_10, h_11, h_17, b_19]
      · try simp at h_17
        cases hp
        try simp [q_6, q_7, q_8, q_9, q_10, h_11, h_17]
        refine goal_next ?_
        rw [I_3_]
        refine ⟨?_, ?_, ?_, ?_, ?_⟩ <;> simp [restrict_env, restrict_mem, q_6, q_7, q_8, q_9, q_10, h_11, h_17]
    · try simp at h_11
      cases hp
      try simp [q_6, q_7, q_8, q_9, q_10, h_11]
      refine goal_outX ?_
      rw [X_4_]
      refine ⟨_, rfl, ?_, ?_⟩ <;> simp [restrict_env, restrict_mem, q_6, q_7, q_8, q_9, q_10, h_11]
  · intro out hX
    rw [X_4_] at hX
    obtain ⟨σ_22, rfl, q_23, q_24⟩ := hX
    cases hp
    simp [Goal, FnEnd, q_23, q_24]
theorem pc95 : PC Try.prog 95 C95 := pc_of (g := g95) (ctxOK_of [] rfl trivial) ⟨Try.f95, Try.func95, by kernel_rfl, by kernel_rfl⟩ fun x y h => w95 h

noncomputable def C79 : List AV → Option AV := specP (X := (List Int) × Int × Unit) fun x => spec_l7Has x.1 x.2.1
theorem C79_eq {list n_} {y} (h : spec_l7Has list n_ = some y) : C79 [av .shr list, av .shr n_] = some (Res.res y) := specP_eq (X := (List Int) × Int × Unit) (F := fun x => spec_l7Has x.1 x.2.1) (x := (list, n_, ())) h
noncomputable def g79 : Cfg := { P := Try.prog, take := [], keep := [], gho := [], ctx := [(95, C95)] }
@[simp] theorem g79_P : g79.P = Try.prog := rfl
@[simp] theorem g79_t : g79.take = [] := rfl
@[simp] theorem g79_g : g79.gho = [] := rfl
@[simp] theorem g79_r : g79.ro = [] := rfl
@[simp] theorem g79_w : g79.away = [] ∧ g79.give = [] ∧ g79.octx = [] := by rw [g79]; exact ⟨rfl, rfl, rfl⟩
@[simp] theorem g79_95 : lookN 95 g79.ctx = some C95 := rfl
set_option maxHeartbeats 4000000 in
set_option maxRecDepth 100000 in
theorem w79 {list n_} {y} (hp : spec_l7Has list n_ = some y) : ∃ m, callo g79 0 79 [av .shr list, av .shr n_] mem0 = some (Res.res y, m) := by
  refine start_fn (Try.f79.body.getD .skip) [.tmp 4] rfl rfl Try.func79 (by kernel_rfl) (by kernel_rfl) (by simp [Try.ntmps79]) rfl ?_
  unfold spec_l7Has at hp
  obtain ⟨y_1, h_2, hp⟩ := bind_some hp
  have c_3 := C95_eq h_2
  simp at c_3
  cases hp
  simp [Try.f79, Goal, FnEnd, c_3]
theorem pc79 : PC Try.prog 79 C79 := pc_of (g := g79) (ctxOK_of [(95, C95)] rfl ⟨pc95, trivial⟩) ⟨Try.f79, Try.func79, by kernel_rfl, by kernel_rfl⟩ fun x y h => w79 h

noncomputable def C78 : List AV → Option AV := specP (X := THeap × Int × Unit) fun x => spec_Followed x.1 x.2.1
theorem C78_eq {h_ cell} {y} (h : spec_Followed h_ cell = some y) : C78 [av .shr h_, av .shr cell] = some (Res.res y) := specP_eq (X := THeap × Int × Unit) (F := fun x => spec_Followed x.1 x.2.1) (x := (h_, cell, ())) h
noncomputable def g78 : Cfg := { P := Try.prog, take := [(78, 23), (78, 32)], keep := [((78, 2), { hd := [1, 2, 5], bx := [], ex := [5], rt := [4] })], gho := [], ctx := [(32, C32), (79, C79)] }
@[simp] theorem g78_P : g78.P = Try.prog := rfl
@[simp] theorem g78_t : g78.take = [(78, 23), (78, 32)] := rfl
@[simp] theorem g78_g : g78.gho = [] := rfl
@[simp] theorem g78_r : g78.ro = [] := rfl
@[simp] theorem g78_w : g78.away = [] ∧ g78.give = [] ∧ g78.octx = [] := by rw [g78]; exact ⟨rfl, rfl, rfl⟩
@[simp] theorem g78_32 : lookN 32 g78.ctx = some C32 := rfl
@[simp] theorem g78_79 : lookN 79 g78.ctx = some C79 := rfl
set_option maxHeartbeats 4000000 in
set_option maxRecDepth 100000 in
theorem w78 {h_ cell} {y} (hp : spec_Followed h_ cell = some y) : ∃ m, callo g78 0 78 [av .shr h_, av .shr cell] mem0 = some (Res.res y, m) := by
  refine start_fn (Try.f78.body.getD .skip) [.tmp 4] rfl rfl Try.func78 (by kernel_rfl) (by kernel_rfl) (by simp [Try.ntmps78]) rfl ?_
  unfold spec_Followed at hp
  simp [Try.f78]
  obtain ⟨r_27, h_28, hp⟩ := bind_some hp
  obtain ⟨I_3, I_3_⟩ : ∃ I : Int × (List Int) → St → Prop, I = (fun (s_1 : Int × (List Int)) (σ : St) => σ.env 1 = .one (.s (.int .i64 s_1.1)) ∧ σ.env 2 = .one (.ptr (1, 2) 0) ∧ σ.env 5 = .one (.l .own s_1.2.length (encL s_1.2)) ∧ σ.mem (1, 2) = some [(.l .shr h_.vars.length (encL h_.vars)), (.l .shr h_.next.length (encL h_.next))] ∧ NoBox [(1, 2)] σ.mem) := ⟨_, rfl⟩
  obtain ⟨X_4, X_4_⟩ : ∃ X : (((List Int)) ⊕ (Unit)) → Out → Prop, X = (fun (r_27 : ((List Int)) ⊕ (Unit)) (out : Out) => Sum.elim (fun r_27 => ∃ σ : St, out = .exit 0 σ ∧ σ.env 5 = .one (.l .own r_27.length (encL r_27)) ∧ σ.mem (1, 2) = some [(.l .shr h_.vars.length (encL h_.vars)), (.l .shr h_.next.length (encL h_.next))] ∧ NoBox [(1, 2)] σ.mem) (fun r_27 => ∃ σ : St, out = .ret σ ∧ σ.env 4 = .one (.l .own 0 []) ∧ σ.mem (1, 2) = some [(.l .shr h_.vars.length (encL h_.vars)), (.l .shr h_.next.length (encL h_.next))] ∧ NoBox [(1, 2)] σ.mem) r_27) := ⟨_, rfl⟩
  refine loopP ({ hd := [1, 2, 5], bx := [], ex := [5], rt := [4] }) I_3 X_4 h_28 (by exact rfl) ?_ ?_ ?_
  · rw [I_3_]
    refine ⟨?_, ?_, ?_, ?_, NoBox.restrict (by intro k hk hb; simp at hk hb; simp [hk, hb])⟩ <;> simp [restrict_env, restrict_mem]
  · intro s_1 σ_5 a_2 hI hp
    rw [I_3_] at hI
    obtain ⟨q_6, q_7, q_8, q_9, hn_10⟩ := hI
    try simp [q_6, q_7, q_8, q_9]
    rcases cond_cases hp with ⟨h_11, hp⟩ | ⟨h_11, hp⟩
    · try simp at h_11
      obtain ⟨y_12, h_13, hp⟩ := bind_some hp
      have c_14 := C79_eq h_13
      simp at c_14
      try simp [q_6, q_7, q_8, q_9, h_11, c_14]
      rcases cond_cases hp with ⟨h_15, hp⟩ | ⟨h_15, hp⟩
      · try simp at h_15
        cases hp
        try simp [q_6, q_7, q_8, q_9, h_11, h_15]
        refine goal_outX ?_
        rw [X_4_]
        refine ⟨_, rfl, ?_, ?_, NoBox.restrict (by intro k hk hb; simp at hk hb; simp [hk, hb, q_6, q_7, q_8, q_9, h_11, h_15, hn_10 k (by simp [hk, hb])])⟩ <;> simp [restrict_env, restrict_mem, q_6, q_7, q_8, q_9, h_11, h_15]
      · try simp at h_15
        obtain ⟨y_16, h_17, hp⟩ := bind_some hp
        have c_18 := C32_eq h_17
        simp at c_18
        try simp [q_6, q_7, q_8, q_9, h_11, h_15, c_18]
        rcases cond_cases hp with ⟨h_19, hp⟩ | ⟨h_19, hp⟩
        · try simp at h_19
          obtain ⟨_, h_20, hp⟩ := bind_some hp
          have b_21 := room_ok h_20
          try simp at b_21
          obtain ⟨e_22, h_23, hp⟩ := bind_some hp
          have b_24 := at_lo h_23
          have b_25 := at_hi h_23
          try simp at b_24
          try simp at b_25
          have c_26 := seg_at' h_23 0 1 (by decide) (ds := [.sc (.int .i64 e_22)]) rfl
          try simp at c_26
          cases hp
          try simp [q_6, q_7, q_8, q_9, h_11, h_15, h_19, b_21, b_24, b_25, c_26]
          refine goal_next ?_
          rw [I_3_]
          refine ⟨?_, ?_, ?_, ?_, NoBox.restrict (by intro k hk hb; simp at hk hb; simp [hk, hb, q_6, q_7, q_8, q_9, h_11, h_15, h_19, b_21, b_24, b_25, c_26, hn_10 k (by simp [hk, hb])])⟩ <;> simp [restrict_env, restrict_mem, q_6, q_7, q_8, q_9, h_11, h_15, h_19, b_21, b_24, b_25, c_26]
        · try simp at h_19
          cases hp
          try simp [q_6, q_7, q_8, q_9, h_11, h_15, h_19]
          refine goal_outR ?_
          rw [X_4_]
          refine ⟨_, rfl, ?_, ?_, NoBox.restrict (by intro k hk hb; simp at hk hb; simp [hk, hb, q_6, q_7, q_8, q_9, h_11, h_15, h_19, hn_10 k (by simp [hk, hb])])⟩ <;> simp [restrict_env, restrict_mem, q_6, q_7, q_8, q_9, h_11, h_15, h_19]
    · try simp at h_11
      cases hp
      try simp [q_6, q_7, q_8, q_9, h_11]
      refine goal_outX ?_
      rw [X_4_]
      refine ⟨_, rfl, ?_, ?_, NoBox.restrict (by intro k hk hb; simp at hk hb; simp [hk, hb, q_6, q_7, q_8, q_9, h_11, hn_10 k (by simp [hk, hb])])⟩ <;> simp [restrict_env, restrict_mem, q_6, q_7, q_8, q_9, h_11]
  · intro out hX
    rw [X_4_] at hX
    rcases r_27 with r_27 | r_27
    · simp only [Sum.elim_inl, Sum.elim_inr] at hX hp
      obtain ⟨σ_29, rfl, q_30, q_31, hn_32⟩ := hX
      cases hp
      simp [Goal, FnEnd, q_30, q_31]
    · simp only [Sum.elim_inl, Sum.elim_inr] at hX hp
      obtain ⟨σ_33, rfl, q_34, q_35, hn_36⟩ := hX
      cases hp
      simp [Goal, FnEnd, q_34, q_35]
theorem pc78 : PC Try.prog 78 C78 := pc_of (g := g78) (ctxOK_of [(32, C32), (79, C79)] rfl ⟨pc32, pc79, trivial⟩) ⟨Try.f78, Try.func78, by kernel_rfl, by kernel_rfl⟩ fun x y h => w78 h

noncomputable def C45 : List AV → Option AV := specP (X := THeap × Unit) fun x => spec_l7Acyclic x.1
theorem C45_eq {h_} {y} (h : spec_l7Acyclic h_ = some y) : C45 [av .shr h_] = some (Res.res y) := specP_eq (X := THeap × Unit) (F := fun x => spec_l7Acyclic x.1) (x := (h_, ())) h
noncomputable def g45 : Cfg := { P := Try.prog, take := [], keep := [((45, 2), { hd := [1, 3], bx := [], ex := [], rt := [2] })], gho := [], ctx := [(78, C78)] }
@[simp] theorem g45_P : g45.P = Try.prog := rfl
@[simp] theorem g45_t : g45.take = [] := rfl
@[simp] theorem g45_g : g45.gho = [] := rfl
@[simp] theorem g45_r : g45.ro = [] := rfl
@[simp] theorem g45_w : g45.away = [] ∧ g45.give = [] ∧ g45.octx = [] := by rw [g45]; exact ⟨rfl, rfl, rfl⟩
@[simp] theorem g45_78 : lookN 78 g45.ctx = some C78 := rfl
set_option maxHeartbeats 4000000 in
set_option maxRecDepth 100000 in
theorem w45 {h_} {y} (hp : spec_l7Acyclic h_ = some y) : ∃ m, callo g45 0 45 [av .shr h_] mem0 = some (Res.res y, m) := by
  refine start_fn (Try.f45.body.getD .skip) [.tmp 2] rfl rfl Try.func45 (by kernel_rfl) (by kernel_rfl) (by simp [Try.ntmps45]) rfl ?_
  unfold spec_l7Acyclic at hp
  simp [Try.f45]
  obtain ⟨r_26, h_27, hp⟩ := bind_some hp
  obtain ⟨I_3, I_3_⟩ : ∃ I : Int → St → Prop, I = (fun (s_1 : Int) (σ : St) => σ.env 1 = .one (.ptr (1, 1) 0) ∧ σ.env 3 = .one (.s (.int .i64 s_1)) ∧ σ.mem (1, 1) = some [(.l .shr h_.vars.length (encL h_.vars)), (.l .shr h_.next.length (encL h_.next))] ∧ NoBox [(1, 1)] σ.mem) := ⟨_, rfl⟩
  obtain ⟨X_4, X_4_⟩ : ∃ X : ((Unit) ⊕ (Unit)) → Out → Prop, X = (fun (r_26 : (Unit) ⊕ (Unit)) (out : Out) => Sum.elim (fun r_26 => ∃ σ : St, out = .ret σ ∧ σ.env 2 = .one (.s (.bool false)) ∧ σ.mem (1, 1) = some [(.l .shr h_.vars.length (encL h_.vars)), (.l .shr h_.next.length (encL h_.next))] ∧ NoBox [(1, 1)] σ.mem) (fun r_26 => ∃ σ : St, out = .exit 0 σ ∧ σ.mem (1, 1) = some [(.l .shr h_.vars.length (encL h_.vars)), (.l .shr h_.next.length (encL h_.next))] ∧ NoBox [(1, 1)] σ.mem) r_26) := ⟨_, rfl⟩
  refine loopP ({ hd := [1, 3], bx := [], ex := [], rt := [2] }) I_3 X_4 h_27 (by exact rfl) ?_ ?_ ?_
  · rw [I_3_]
    refine ⟨?_, ?_, ?_, NoBox.restrict (by intro k hk hb; simp at hk hb; simp [hk, hb])⟩ <;> simp [restrict_env, restrict_mem]
  · intro s_1 σ_5 a_2 hI hp
    rw [I_3_] at hI
    obtain ⟨q_6, q_7, q_8, hn_9⟩ := hI
    try simp [q_6, q_7, q_8]
    rcases cond_cases hp with ⟨h_10, hp⟩ | ⟨h_10, hp⟩
    · try simp at h_10
      obtain ⟨y_11, h_12, hp⟩ := bind_some hp
      have c_13 := C78_eq h_12
      simp at c_13
      try simp [q_6, q_7, q_8, h_10, c_13]
      rcases cond_cases hp with ⟨h_14, hp⟩ | ⟨h_14, hp⟩
      · try simp at h_14
        cases hp
        try simp [q_6, q_7, q_8, h_10, h_14]
        refine goal_outR ?_
        rw [X_4_]
        refine ⟨_, rfl, ?_, ?_, NoBox.restrict (by intro k hk hb; simp at hk hb; simp [hk, hb, q_6, q_7, q_8, h_10, h_14, hn_9 k (by simp [hk, hb])])⟩ <;> simp [restrict_env, restrict_mem, q_6, q_7, q_8, h_10, h_14]
      · try simp at h_14
        obtain ⟨e_15, h_16, hp⟩ := bind_some hp
        have b_17 := at_lo h_16
        have b_18 := at_hi h_16
        try simp at b_17
        try simp at b_18
        have c_19 := seg_at' h_16 0 1 (by decide) (ds := [.sc (.int .i64 e_15)]) rfl
        try simp at c_19
        obtain ⟨e_20, h_21, hp⟩ := bind_some hp
        have b_22 := at_lo h_21
        have b_23 := at_hi h_21
        try simp at b_22
        try simp at b_23
        have c_24 := seg_at' h_21 0 1 (by decide) (ds := [.sc (.int .i64 e_20)]) rfl
        try simp at c_24
        try simp [q_6, q_7, q_8, h_10, h_14, b_17, b_18, c_19, b_22, b_23, c_24]
        rcases cond_cases hp with ⟨h_25, hp⟩ | ⟨h_25, hp⟩
        · try simp at h_25
          cases hp
          try simp [q_6, q_7, q_8, h_10, h_14, h_25]
          refine goal_outR ?_
          rw [X_4_]
          refine ⟨_, rfl, ?_, ?_, NoBox.restrict (by intro k hk hb; simp at hk hb; simp [hk, hb, q_6, q_7, q_8, h_10, h_14, h_25, hn_9 k (by simp [hk, hb])])⟩ <;> simp [restrict_env, restrict_mem, q_6, q_7, q_8, h_10, h_14, h_25]
        · try simp at h_25
          cases hp
          try simp [q_6, q_7, q_8, h_10, h_14, h_25]
          refine goal_next ?_
          rw [I_3_]
          refine ⟨?_, ?_, ?_, NoBox.restrict (by intro k hk hb; simp at hk hb; simp [hk, hb, q_6, q_7, q_8, h_10, h_14, h_25, hn_9 k (by simp [hk, hb])])⟩ <;> simp [restrict_env, restrict_mem, q_6, q_7, q_8, h_10, h_14, h_25]
    · try simp at h_10
      cases hp
      try simp [q_6, q_7, q_8, h_10]
      refine goal_outX ?_
      rw [X_4_]
      exact ⟨_, rfl, by simp [restrict_mem, q_6, q_7, q_8, h_10], NoBox.restrict (by intro k hk hb; simp at hk hb; simp [hk, hb, q_6, q_7, q_8, h_10, hn_9 k (by simp [hk, hb])])⟩
  · intro out hX
    rw [X_4_] at hX
    rcases r_26 with r_26 | r_26
    · simp only [Sum.elim_inl, Sum.elim_inr] at hX hp
      obtain ⟨σ_28, rfl, q_29, q_30, hn_31⟩ := hX
      cases hp
      simp [Goal, FnEnd, q_29, q_30]
    · simp only [Sum.elim_inl, Sum.elim_inr] at hX hp
      obtain ⟨σ_32, rfl, q_33, hn_34⟩ := hX
      cases hp
      simp [Goal, FnEnd, q_33]
theorem pc45 : PC Try.prog 45 C45 := pc_of (g := g45) (ctxOK_of [(78, C78)] rfl ⟨pc78, trivial⟩) ⟨Try.f45, Try.func45, by kernel_rfl, by kernel_rfl⟩ fun x y h => w45 h

noncomputable def C46 : List AV → Option AV := specP (X := THeap × Unit) fun x => spec_l7Order x.1
theorem C46_eq {h_} {y} (h : spec_l7Order h_ = some y) : C46 [av .shr h_] = some (Res.res y) := specP_eq (X := THeap × Unit) (F := fun x => spec_l7Order x.1) (x := (h_, ())) h
noncomputable def g46 : Cfg := { P := Try.prog, take := [(46, 35), (46, 42)], keep := [((46, 3), { hd := [1, 3, 4], bx := [], ex := [3], rt := [2] }), ((46, 7), { hd := [1, 3, 4, 5, 6], bx := [], ex := [1, 3, 4], rt := [2] })], gho := [], ctx := [(78, C78), (79, C79)] }
@[simp] theorem g46_P : g46.P = Try.prog := rfl
@[simp] theorem g46_t : g46.take = [(46, 35), (46, 42)] := rfl
@[simp] theorem g46_g : g46.gho = [] := rfl
@[simp] theorem g46_r : g46.ro = [] := rfl
@[simp] theorem g46_w : g46.away = [] ∧ g46.give = [] ∧ g46.octx = [] := by rw [g46]; exact ⟨rfl, rfl, rfl⟩
@[simp] theorem g46_78 : lookN 78 g46.ctx = some C78 := rfl
@[simp] theorem g46_79 : lookN 79 g46.ctx = some C79 := rfl
set_option maxHeartbeats 4000000 in
set_option maxRecDepth 100000 in
theorem w46 {h_} {y} (hp : spec_l7Order h_ = some y) : ∃ m, callo g46 0 46 [av .shr h_] mem0 = some (Res.res y, m) := by
  refine start_fn (Try.f46.body.getD .skip) [.tmp 2] rfl rfl Try.func46 (by kernel_rfl) (by kernel_rfl) (by simp [Try.ntmps46]) rfl ?_
  unfold spec_l7Order at hp
  simp [Try.f46]
  obtain ⟨r_57, h_58, hp⟩ := bind_some hp
  obtain ⟨I_3, I_3_⟩ : ∃ I : (List Int) × Int → St → Prop, I = (fun (s_1 : (List Int) × Int) (σ : St) => σ.env 1 = .one (.ptr (1, 1) 0) ∧ σ.env 3 = .one (.l .own s_1.1.length (encL s_1.1)) ∧ σ.env 4 = .one (.s (.int .i64 s_1.2)) ∧ σ.mem (1, 1) = some [(.l .shr h_.vars.length (encL h_.vars)), (.l .shr h_.next.length (encL h_.next))] ∧ NoBox [(1, 1)] σ.mem) := ⟨_, rfl⟩
  obtain ⟨X_4, X_4_⟩ : ∃ X : (List Int) → Out → Prop, X = (fun (r_57 : (List Int)) (out : Out) => ∃ σ : St, out = .exit 0 σ ∧ σ.env 3 = .one (.l .own r_57.length (encL r_57)) ∧ σ.mem (1, 1) = some [(.l .shr h_.vars.length (encL h_.vars)), (.l .shr h_.next.length (encL h_.next))] ∧ NoBox [(1, 1)] σ.mem) := ⟨_, rfl⟩
  refine loopP ({ hd := [1, 3, 4], bx := [], ex := [3], rt := [2] }) I_3 X_4 h_58 (by exact rfl) ?_ ?_ ?_
  · rw [I_3_]
    refine ⟨?_, ?_, ?_, ?_, NoBox.restrict (by intro k hk hb; simp at hk hb; simp [hk, hb])⟩ <;> simp [restrict_env, restrict_mem]
  · intro s_1 σ_5 a_2 hI hp
    rw [I_3_] at hI
    obtain ⟨q_6, q_7, q_8, q_9, hn_10⟩ := hI
    try simp [q_6, q_7, q_8, q_9]
    rcases cond_cases hp with ⟨h_11, hp⟩ | ⟨h_11, hp⟩
    · try simp at h_11
      obtain ⟨e_12, h_13, hp⟩ := bind_some hp
      have b_14 := at_lo h_13
      have b_15 := at_hi h_13
      try simp at b_14
      try simp at b_15
      have c_16 := seg_at' h_13 0 1 (by decide) (ds := [.sc (.int .i64 e_12)]) rfl
      try simp at c_16
      obtain ⟨y_17, h_18, hp⟩ := bind_some hp
      have c_19 := C78_eq h_18
      simp at c_19
      try simp [q_6, q_7, q_8, q_9, h_11, b_14, b_15, c_16, c_19]
      obtain ⟨r_49, h_50, hp⟩ := bind_some hp
      obtain ⟨I_22, I_22_⟩ : ∃ I : Int × (List Int) → St → Prop, I = (fun (s_20 : Int × (List Int)) (σ : St) => σ.env 1 = .one (.ptr (1, 1) 0) ∧ σ.env 3 = .one (.l .own s_20.2.length (encL s_20.2)) ∧ σ.env 4 = .one (.s (.int .i64 s_1.2)) ∧ σ.env 5 = .one (.l .own y_17.length (encL y_17)) ∧ σ.env 6 = .one (.s (.int .i64 s_20.1)) ∧ σ.mem (1, 1) = some [(.l .shr h_.vars.length (encL h_.vars)), (.l .shr h_.next.length (encL h_.next))] ∧ NoBox [(1, 1)] σ.mem) := ⟨_, rfl⟩
      obtain ⟨X_23, X_23_⟩ : ∃ X : (List Int) → Out → Prop, X = (fun (r_49 : (List Int)) (out : Out) => ∃ σ : St, out = .exit 2 σ ∧ σ.env 1 = .one (.ptr (1, 1) 0) ∧ σ.env 3 = .one (.l .own r_49.length (encL r_49)) ∧ σ.env 4 = .one (.s (.int .i64 s_1.2)) ∧ σ.mem (1, 1) = some [(.l .shr h_.vars.length (encL h_.vars)), (.l .shr h_.next.length (encL h_.next))] ∧ NoBox [(1, 1)] σ.mem) := ⟨_, rfl⟩
      refine loopP ({ hd := [1, 3, 4, 5, 6], bx := [], ex := [1, 3, 4], rt := [2] }) I_22 X_23 h_50 (by exact rfl) ?_ ?_ ?_
      · rw [I_22_]
        refine ⟨?_, ?_, ?_, ?_, ?_, ?_, NoBox.restrict (by intro k hk hb; simp at hk hb; simp [hk, hb, q_6, q_7, q_8, q_9, h_11, hn_10 k (by simp [hk, hb])])⟩ <;> simp [restrict_env, restrict_mem, q_6, q_7, q_8, q_9, h_11]
      · intro s_20 σ_24 a_21 hI hp
        rw [I_22_] at hI
        obtain ⟨q_25, q_26, q_27, q_28, q_29, q_30, hn_31⟩ := hI
        try simp [h_11, q_25, q_26, q_27, q_28, q_29, q_30]
        rcases cond_cases hp with ⟨h_32, hp⟩ | ⟨h_32, hp⟩
        · try simp at h_32
          obtain ⟨e_33, h_34, hp⟩ := bind_some hp
          have b_35 := at_lo h_34
          have b_36 := at_hi h_34
          try simp at b_35
          try simp at b_36
          have c_37 := seg_at' h_34 0 1 (by decide) (ds := [.sc (.int .i64 e_33)]) rfl
          try simp at c_37
          obtain ⟨y_38, h_39, hp⟩ := bind_some hp
          have c_40 := C79_eq h_39
          simp at c_40
          try simp [h_11, q_25, q_26, q_27, q_28, q_29, q_30, h_32, b_35, b_36, c_37, c_40]
          rcases cond_cases hp with ⟨h_41, hp⟩ | ⟨h_41, hp⟩
          · try simp at h_41
            cases hp
            try simp [h_11, q_25, q_26, q_27, q_28, q_29, q_30, h_32, h_41]
            refine goal_next ?_
            rw [I_22_]
            refine ⟨?_, ?_, ?_, ?_, ?_, ?_, NoBox.restrict (by intro k hk hb; simp at hk hb; simp [hk, hb, h_11, q_25, q_26, q_27, q_28, q_29, q_30, h_32, h_41, hn_31 k (by simp [hk, hb])])⟩ <;> simp [restrict_env, restrict_mem, h_11, q_25, q_26, q_27, q_28, q_29, q_30, h_32, h_41]
          · try simp at h_41
            obtain ⟨e_42, h_43, hp⟩ := bind_some hp
            cases Option.some.inj (h_34.symm.trans h_43)
            have b_44 := at_lo h_34
            have b_45 := at_hi h_34
            try simp at b_44
            try simp at b_45
            have c_46 := seg_at' h_34 0 1 (by decide) (ds := [.sc (.int .i64 e_33)]) rfl
            try simp at c_46
            obtain ⟨_, h_47, hp⟩ := bind_some hp
            have b_48 := room_ok h_47
            try simp at b_48
            cases hp
            try simp [h_11, q_25, q_26, q_27, q_28, q_29, q_30, h_32, h_41, b_44, b_45, c_46, b_48]
            refine goal_next ?_
            rw [I_22_]
            refine ⟨?_, ?_, ?_, ?_, ?_, ?_, NoBox.restrict (by intro k hk hb; simp at hk hb; simp [hk, hb, h_11, q_25, q_26, q_27, q_28, q_29, q_30, h_32, h_41, b_44, b_45, c_46, b_48, hn_31 k (by simp [hk, hb])])⟩ <;> simp [restrict_env, restrict_mem, h_11, q_25, q_26, q_27, q_28, q_29, q_30, h_32, h_41, b_44, b_45, c_46, b_48]
        · try simp at h_32
          cases hp
          try simp [h_11, q_25, q_26, q_27, q_28, q_29, q_30, h_32]
          refine goal_outX ?_
          rw [X_23_]
          refine ⟨_, rfl, ?_, ?_, ?_, ?_, NoBox.restrict (by intro k hk hb; simp at hk hb; simp [hk, hb, h_11, q_25, q_26, q_27, q_28, q_29, q_30, h_32, hn_31 k (by simp [hk, hb])])⟩ <;> simp [restrict_env, restrict_mem, h_11, q_25, q_26, q_27, q_28, q_29, q_30, h_32]
      · intro out hX
        rw [X_23_] at hX
        obtain ⟨σ_51, rfl, q_52, q_53, q_54, q_55, hn_56⟩ := hX
        cases hp
        try simp [h_11, q_52, q_53, q_54, q_55]
        refine goal_next ?_
        rw [I_3_]
        refine ⟨?_, ?_, ?_, ?_, NoBox.restrict (by intro k hk hb; simp at hk hb; simp [hk, hb, h_11, q_52, q_53, q_54, q_55, hn_56 k (by simp [hk, hb])])⟩ <;> simp [restrict_env, restrict_mem, h_11, q_52, q_53, q_54, q_55]
    · try simp at h_11
      cases hp
      try simp [q_6, q_7, q_8, q_9, h_11]
      refine goal_outX ?_
      rw [X_4_]
      refine ⟨_, rfl, ?_, ?_, NoBox.restrict (by intro k hk hb; simp at hk hb; simp [hk, hb, q_6, q_7, q_8, q_9, h_11, hn_10 k (by simp [hk, hb])])⟩ <;> simp [restrict_env, restrict_mem, q_6, q_7, q_8, q_9, h_11]
  · intro out hX
    rw [X_4_] at hX
    obtain ⟨σ_59, rfl, q_60, q_61, hn_62⟩ := hX
    cases hp
    simp [Goal, FnEnd, q_60, q_61]
theorem pc46 : PC Try.prog 46 C46 := pc_of (g := g46) (ctxOK_of [(78, C78), (79, C79)] rfl ⟨pc78, pc79, trivial⟩) ⟨Try.f46, Try.func46, by kernel_rfl, by kernel_rfl⟩ fun x y h => w46 h

noncomputable def C30 : List AV → Option AV := specP (X := Int × THeap × Unit) fun x => spec_IsHeap x.1 x.2.1
theorem C30_eq {vars h_} {y} (h : spec_IsHeap vars h_ = some y) : C30 [av .shr vars, av .shr h_] = some (Res.res y) := specP_eq (X := Int × THeap × Unit) (F := fun x => spec_IsHeap x.1 x.2.1) (x := (vars, h_, ())) h
noncomputable def g30 : Cfg := { P := Try.prog, take := [], keep := [((30, 5), { hd := [3, 5, 6], bx := [], ex := [3, 5], rt := [4] })], gho := [], ctx := [(32, C32), (44, C44), (45, C45), (46, C46)] }
@[simp] theorem g30_P : g30.P = Try.prog := rfl
@[simp] theorem g30_t : g30.take = [] := rfl
@[simp] theorem g30_g : g30.gho = [] := rfl
@[simp] theorem g30_r : g30.ro = [] := rfl
@[simp] theorem g30_w : g30.away = [] ∧ g30.give = [] ∧ g30.octx = [] := by rw [g30]; exact ⟨rfl, rfl, rfl⟩
@[simp] theorem g30_32 : lookN 32 g30.ctx = some C32 := rfl
@[simp] theorem g30_44 : lookN 44 g30.ctx = some C44 := rfl
@[simp] theorem g30_45 : lookN 45 g30.ctx = some C45 := rfl
@[simp] theorem g30_46 : lookN 46 g30.ctx = some C46 := rfl
set_option maxHeartbeats 4000000 in
set_option maxRecDepth 100000 in
theorem w30 {vars h_} {y} (hp : spec_IsHeap vars h_ = some y) : ∃ m, callo g30 0 30 [av .shr vars, av .shr h_] mem0 = some (Res.res y, m) := by
  refine start_fn (Try.f30.body.getD .skip) [.tmp 4] rfl rfl Try.func30 (by kernel_rfl) (by kernel_rfl) (by simp [Try.ntmps30]) rfl ?_
  unfold spec_IsHeap at hp
  obtain ⟨y_1, h_2, hp⟩ := bind_some hp
  have c_3 := C32_eq h_2
  simp at c_3
  simp [Try.f30, c_3]
  rcases cond_cases hp with ⟨h_4, hp⟩ | ⟨h_4, hp⟩
  · try simp at h_4
    try simp [h_4]
    rcases cond_cases hp with ⟨h_5, hp⟩ | ⟨h_5, hp⟩
    · try simp at h_5
      cases hp
      simp [Goal, FnEnd, h_4, h_5]
    · try simp at h_5
      try simp [h_4, h_5]
      rcases cond_cases hp with ⟨h_6, hp⟩ | ⟨h_6, hp⟩
      · try simp at h_6
        cases hp
        simp [Goal, FnEnd, h_4, h_5, h_6]
      · try simp at h_6
        obtain ⟨y_7, h_8, hp⟩ := bind_some hp
        have c_9 := C44_eq h_8
        simp at c_9
        try simp [h_4, h_5, h_6, c_9]
        rcases cond_cases hp with ⟨h_10, hp⟩ | ⟨h_10, hp⟩
        · try simp at h_10
          obtain ⟨y_11, h_12, hp⟩ := bind_some hp
          have c_13 := C45_eq h_12
          simp at c_13
          try simp [h_4, h_5, h_6, h_10, c_13]
          rcases cond_cases hp with ⟨h_14, hp⟩ | ⟨h_14, hp⟩
          · try simp at h_14
            obtain ⟨y_15, h_16, hp⟩ := bind_some hp
            have c_17 := C46_eq h_16
            simp at c_17
            try simp [h_4, h_5, h_6, h_10, h_14, c_17]
            obtain ⟨r_35, h_36, hp⟩ := bind_some hp
            obtain ⟨I_20, I_20_⟩ : ∃ I : Int → St → Prop, I = (fun (s_18 : Int) (σ : St) => σ.env 3 = .one (.ptr (1, 3) 0) ∧ σ.env 5 = .one (.l .own y_15.length (encL y_15)) ∧ σ.env 6 = .one (.s (.int .i64 s_18)) ∧ σ.mem (1, 3) = some [(.l .shr h_.vars.length (encL h_.vars)), (.l .shr h_.next.length (encL h_.next))] ∧ NoBox [(1, 3)] σ.mem) := ⟨_, rfl⟩
            obtain ⟨X_21, X_21_⟩ : ∃ X : ((Unit) ⊕ (Unit)) → Out → Prop, X = (fun (r_35 : (Unit) ⊕ (Unit)) (out : Out) => Sum.elim (fun r_35 => ∃ σ : St, out = .ret σ ∧ σ.env 4 = .one (.s (.bool false)) ∧ σ.mem (1, 3) = some [(.l .shr h_.vars.length (encL h_.vars)), (.l .shr h_.next.length (encL h_.next))] ∧ NoBox [(1, 3)] σ.mem) (fun r_35 => ∃ σ : St, out = .exit 0 σ ∧ σ.env 3 = .one (.ptr (1, 3) 0) ∧ σ.env 5 = .one (.l .own y_15.length (encL y_15)) ∧ σ.mem (1, 3) = some [(.l .shr h_.vars.length (encL h_.vars)), (.l .shr h_.next.length (encL h_.next))] ∧ NoBox [(1, 3)] σ.mem) r_35) := ⟨_, rfl⟩
            refine loopP ({ hd := [3, 5, 6], bx := [], ex := [3, 5], rt := [4] }) I_20 X_21 h_36 (by exact rfl) ?_ ?_ ?_
            · rw [I_20_]
              refine ⟨?_, ?_, ?_, ?_, NoBox.restrict (by intro k hk hb; simp at hk hb; simp [hk, hb, h_4, h_5, h_6, h_10, h_14])⟩ <;> simp [restrict_env, restrict_mem, h_4, h_5, h_6, h_10, h_14]
            · intro s_18 σ_22 a_19 hI hp
              rw [I_20_] at hI
              obtain ⟨q_23, q_24, q_25, q_26, hn_27⟩ := hI
              try simp [h_4, h_5, h_6, h_10, h_14, q_23, q_24, q_25, q_26]
              rcases cond_cases hp with ⟨h_28, hp⟩ | ⟨h_28, hp⟩
              · try simp at h_28
                obtain ⟨e_29, h_30, hp⟩ := bind_some hp
                have b_31 := at_lo h_30
                have b_32 := at_hi h_30
                try simp at b_31
                try simp at b_32
                have c_33 := seg_at' h_30 0 1 (by decide) (ds := [.sc (.int .i64 e_29)]) rfl
                try simp at c_33
                try simp [h_4, h_5, h_6, h_10, h_14, q_23, q_24, q_25, q_26, h_28, b_31, b_32, c_33]
                rcases cond_cases hp with ⟨h_34, hp⟩ | ⟨h_34, hp⟩
                · try simp at h_34
                  cases hp
                  try simp [h_4, h_5, h_6, h_10, h_14, q_23, q_24, q_25, q_26, h_28, h_34]
                  refine goal_outR ?_
                  rw [X_21_]
                  refine ⟨_, rfl, ?_, ?_, NoBox.restrict (by intro k hk hb; simp at hk hb; simp [hk, hb, h_4, h_5, h_6, h_10, h_14, q_23, q_24, q_25, q_26, h_28, h_34, hn_27 k (by simp [hk, hb])])⟩ <;> simp [restrict_env, restrict_mem, h_4, h_5, h_6, h_10, h_14, q_23, q_24, q_25, q_26, h_28, h_34]
                · try simp at h_34
                  cases hp
                  try simp [h_4, h_5, h_6, h_10, h_14, q_23, q_24, q_25, q_26, h_28, h_34]
                  refine goal_next ?_
                  rw [I_20_]
                  refine ⟨?_, ?_, ?_, ?_, NoBox.restrict (by intro k hk hb; simp at hk hb; simp [hk, hb, h_4, h_5, h_6, h_10, h_14, q_23, q_24, q_25, q_26, h_28, h_34, hn_27 k (by simp [hk, hb])])⟩ <;> simp [restrict_env, restrict_mem, h_4, h_5, h_6, h_10, h_14, q_23, q_24, q_25, q_26, h_28, h_34]
              · try simp at h_28
                cases hp
                try simp [h_4, h_5, h_6, h_10, h_14, q_23, q_24, q_25, q_26, h_28]
                refine goal_outX ?_
                rw [X_21_]
                refine ⟨_, rfl, ?_, ?_, ?_, NoBox.restrict (by intro k hk hb; simp at hk hb; simp [hk, hb, h_4, h_5, h_6, h_10, h_14, q_23, q_24, q_25, q_26, h_28, hn_27 k (by simp [hk, hb])])⟩ <;> simp [restrict_env, restrict_mem, h_4, h_5, h_6, h_10, h_14, q_23, q_24, q_25, q_26, h_28]
            · intro out hX
              rw [X_21_] at hX
              rcases r_35 with r_35 | r_35
              · simp only [Sum.elim_inl, Sum.elim_inr] at hX hp
                obtain ⟨σ_37, rfl, q_38, q_39, hn_40⟩ := hX
                cases hp
                simp [Goal, FnEnd, h_4, h_5, h_6, h_10, h_14, q_38, q_39]
              · simp only [Sum.elim_inl, Sum.elim_inr] at hX hp
                obtain ⟨σ_41, rfl, q_42, q_43, q_44, hn_45⟩ := hX
                cases hp
                simp [Goal, FnEnd, h_4, h_5, h_6, h_10, h_14, q_42, q_43, q_44]
          · try simp at h_14
            cases hp
            simp [Goal, FnEnd, h_4, h_5, h_6, h_10, h_14]
        · try simp at h_10
          cases hp
          simp [Goal, FnEnd, h_4, h_5, h_6, h_10]
  · try simp at h_4
    cases hp
    simp [Goal, FnEnd, h_4]
theorem pc30 : PC Try.prog 30 C30 := pc_of (g := g30) (ctxOK_of [(32, C32), (44, C44), (45, C45), (46, C46)] rfl ⟨pc32, pc44, pc45, pc46, trivial⟩) ⟨Try.f30, Try.func30, by kernel_rfl, by kernel_rfl⟩ fun x y h => w30 h

noncomputable def C31 : List AV → Option AV := specP (X := THeap × Unit) fun x => spec_l7Copy x.1
theorem C31_eq {h_} {y} (h : spec_l7Copy h_ = some y) : C31 [av .shr h_] = some (Res.res y) := specP_eq (X := THeap × Unit) (F := fun x => spec_l7Copy x.1) (x := (h_, ())) h
noncomputable def g31 : Cfg := { P := Try.prog, take := [], keep := [], gho := [], ctx := [] }
@[simp] theorem g31_P : g31.P = Try.prog := rfl
@[simp] theorem g31_t : g31.take = [] := rfl
@[simp] theorem g31_g : g31.gho = [] := rfl
@[simp] theorem g31_r : g31.ro = [] := rfl
@[simp] theorem g31_w : g31.away = [] ∧ g31.give = [] ∧ g31.octx = [] := by rw [g31]; exact ⟨rfl, rfl, rfl⟩
set_option maxHeartbeats 4000000 in
set_option maxRecDepth 100000 in
theorem w31 {h_} {y} (hp : spec_l7Copy h_ = some y) : ∃ m, callo g31 0 31 [av .shr h_] mem0 = some (Res.res y, m) := by
  refine start_fn (Try.f31.body.getD .skip) [.cell 2 38] rfl rfl Try.func31 (by kernel_rfl) (by kernel_rfl) (by simp [Try.ntmps31]) rfl ?_
  unfold spec_l7Copy at hp
  obtain ⟨_, h_1, hp⟩ := bind_some hp
  have b_2 := room_ok h_1
  try simp at b_2
  obtain ⟨_, h_3, hp⟩ := bind_some hp
  have b_4 := room_ok h_3
  try simp at b_4
  cases hp
  simp [Try.f31, Goal, FnEnd, retR, rsrc, RSrc.val, nodupR, nodup, tupPart, b_2, b_4]
theorem pc31 : PC Try.prog 31 C31 := pc_of (g := g31) (ctxOK_of [] rfl trivial) ⟨Try.f31, Try.func31, by kernel_rfl, by kernel_rfl⟩ fun x y h => w31 h

noncomputable def C47 : List AV → Option AV := specP (X := Int × Int × Unit) fun x => spec_l1Max x.1 x.2.1
theorem C47_eq {a_ b_} {y} (h : spec_l1Max a_ b_ = some y) : C47 [av .shr a_, av .shr b_] = some (Res.res y) := specP_eq (X := Int × Int × Unit) (F := fun x => spec_l1Max x.1 x.2.1) (x := (a_, b_, ())) h
noncomputable def g47 : Cfg := { P := Try.prog, take := [], keep := [], gho := [], ctx := [] }
@[simp] theorem g47_P : g47.P = Try.prog := rfl
@[simp] theorem g47_t : g47.take = [] := rfl
@[simp] theorem g47_g : g47.gho = [] := rfl
@[simp] theorem g47_r : g47.ro = [] := rfl
@[simp] theorem g47_w : g47.away = [] ∧ g47.give = [] ∧ g47.octx = [] := by rw [g47]; exact ⟨rfl, rfl, rfl⟩
set_option maxHeartbeats 4000000 in
set_option maxRecDepth 100000 in
theorem w47 {a_ b_} {y} (hp : spec_l1Max a_ b_ = some y) : ∃ m, callo g47 0 47 [av .shr a_, av .shr b_] mem0 = some (Res.res y, m) := by
  refine start_fn (Try.f47.body.getD .skip) [.tmp 4] rfl rfl Try.func47 (by kernel_rfl) (by kernel_rfl) (by simp [Try.ntmps47]) rfl ?_
  unfold spec_l1Max at hp
  simp [Try.f47]
  rcases cond_cases hp with ⟨h_1, hp⟩ | ⟨h_1, hp⟩
  · try simp at h_1
    cases hp
    simp [Goal, FnEnd, h_1]
  · try simp at h_1
    cases hp
    simp [Goal, FnEnd, h_1]
theorem pc47 : PC Try.prog 47 C47 := pc_of (g := g47) (ctxOK_of [] rfl trivial) ⟨Try.f47, Try.func47, by kernel_rfl, by kernel_rfl⟩ fun x y h => w47 h

noncomputable def C49 : List AV → Option AV := specP (X := TStmt × Unit) fun x => spec_IsTest x.1
theorem C49_eq {s} {y} (h : spec_IsTest s = some y) : C49 [av .shr s] = some (Res.res y) := specP_eq (X := TStmt × Unit) (F := fun x => spec_IsTest x.1) (x := (s, ())) h
noncomputable def g49 : Cfg := { P := Try.prog, take := [], keep := [], gho := [], ctx := [(32, C32)] }
@[simp] theorem g49_P : g49.P = Try.prog := rfl
@[simp] theorem g49_t : g49.take = [] := rfl
@[simp] theorem g49_g : g49.gho = [] := rfl
@[simp] theorem g49_r : g49.ro = [] := rfl
@[simp] theorem g49_w : g49.away = [] ∧ g49.give = [] ∧ g49.octx = [] := by rw [g49]; exact ⟨rfl, rfl, rfl⟩
@[simp] theorem g49_32 : lookN 32 g49.ctx = some C32 := rfl
set_option maxHeartbeats 4000000 in
set_option maxRecDepth 100000 in
theorem w49 {s} {y} (hp : spec_IsTest s = some y) : ∃ m, callo g49 0 49 [av .shr s] mem0 = some (Res.res y, m) := by
  refine start_fn (Try.f49.body.getD .skip) [.tmp 2] rfl rfl Try.func49 (by kernel_rfl) (by kernel_rfl) (by simp [Try.ntmps49]) rfl ?_
  unfold spec_IsTest at hp
  obtain ⟨y_1, h_2, hp⟩ := bind_some hp
  have c_3 := C32_eq h_2
  simp at c_3
  cases hp
  simp [Try.f49, Goal, FnEnd, c_3]
theorem pc49 : PC Try.prog 49 C49 := pc_of (g := g49) (ctxOK_of [(32, C32)] rfl ⟨pc32, trivial⟩) ⟨Try.f49, Try.func49, by kernel_rfl, by kernel_rfl⟩ fun x y h => w49 h

noncomputable def C50 : List AV → Option AV := specP (X := Int × Int × Int × Unit) fun x => spec_l8Test x.1 x.2.1 x.2.2.1
theorem C50_eq {kind a_ b_} {y} (h : spec_l8Test kind a_ b_ = some y) : C50 [av .shr kind, av .shr a_, av .shr b_] = some (Res.res y) := specP_eq (X := Int × Int × Int × Unit) (F := fun x => spec_l8Test x.1 x.2.1 x.2.2.1) (x := (kind, a_, b_, ())) h
noncomputable def g50 : Cfg := { P := Try.prog, take := [], keep := [], gho := [], ctx := [] }
@[simp] theorem g50_P : g50.P = Try.prog := rfl
@[simp] theorem g50_t : g50.take = [] := rfl
@[simp] theorem g50_g : g50.gho = [] := rfl
@[simp] theorem g50_r : g50.ro = [] := rfl
@[simp] theorem g50_w : g50.away = [] ∧ g50.give = [] ∧ g50.octx = [] := by rw [g50]; exact ⟨rfl, rfl, rfl⟩
set_option maxHeartbeats 4000000 in
set_option maxRecDepth 100000 in
theorem w50 {kind a_ b_} {y} (hp : spec_l8Test kind a_ b_ = some y) : ∃ m, callo g50 0 50 [av .shr kind, av .shr a_, av .shr b_] mem0 = some (Res.res y, m) := by
  refine start_fn (Try.f50.body.getD .skip) [.tmp 6] rfl rfl Try.func50 (by kernel_rfl) (by kernel_rfl) (by simp [Try.ntmps50]) rfl ?_
  unfold spec_l8Test at hp
  simp [Try.f50]
  rcases cond_cases hp with ⟨h_1, hp⟩ | ⟨h_1, hp⟩
  · try simp at h_1
    cases hp
    simp [Goal, FnEnd, h_1]
  · try simp at h_1
    try simp [h_1]
    rcases cond_cases hp with ⟨h_2, hp⟩ | ⟨h_2, hp⟩
    · try simp at h_2
      cases hp
      simp [Goal, FnEnd, h_1, h_2]
    · try simp at h_2
      try simp [h_1, h_2]
      rcases cond_cases hp with ⟨h_3, hp⟩ | ⟨h_3, hp⟩
      · try simp at h_3
        cases hp
        simp [Goal, FnEnd, h_1, h_2, h_3]
      · try simp at h_3
        cases hp
        simp [Goal, FnEnd, h_1, h_2, h_3]
theorem pc50 : PC Try.prog 50 C50 := pc_of (g := g50) (ctxOK_of [] rfl trivial) ⟨Try.f50, Try.func50, by kernel_rfl, by kernel_rfl⟩ fun x y h => w50 h

noncomputable def C51 : List AV → Option AV := specP (X := TStmt × THeap × Int × Int × Unit) fun x => spec_l8Null x.1 x.2.1 x.2.2.1 x.2.2.2.1
theorem C51_eq {s h_ a_ b_} {y} (h : spec_l8Null s h_ a_ b_ = some y) : C51 [av .shr s, av .shr h_, av .shr a_, av .shr b_] = some (Res.res y) := specP_eq (X := TStmt × THeap × Int × Int × Unit) (F := fun x => spec_l8Null x.1 x.2.1 x.2.2.1 x.2.2.2.1) (x := (s, h_, a_, b_, ())) h
noncomputable def g51 : Cfg := { P := Try.prog, take := [], keep := [], gho := [], ctx := [] }
@[simp] theorem g51_P : g51.P = Try.prog := rfl
@[simp] theorem g51_t : g51.take = [] := rfl
@[simp] theorem g51_g : g51.gho = [] := rfl
@[simp] theorem g51_r : g51.ro = [] := rfl
@[simp] theorem g51_w : g51.away = [] ∧ g51.give = [] ∧ g51.octx = [] := by rw [g51]; exact ⟨rfl, rfl, rfl⟩
set_option maxHeartbeats 4000000 in
set_option maxRecDepth 100000 in
theorem w51 {s h_ a_ b_} {y} (hp : spec_l8Null s h_ a_ b_ = some y) : ∃ m, callo g51 0 51 [av .shr s, av .shr h_, av .shr a_, av .shr b_] mem0 = some (Res.res y, m) := by
  refine start_fn (Try.f51.body.getD .skip) [.tmp 8] rfl rfl Try.func51 (by kernel_rfl) (by kernel_rfl) (by simp [Try.ntmps51]) rfl ?_
  unfold spec_l8Null at hp
  simp [Try.f51]
  rcases cond_cases hp with ⟨h_1, hp⟩ | ⟨h_1, hp⟩
  · try simp at h_1
    obtain ⟨e_2, h_3, hp⟩ := bind_some hp
    have b_4 := at_lo h_3
    have b_5 := at_hi h_3
    try simp at b_4
    try simp at b_5
    have c_6 := seg_at' h_3 0 1 (by decide) (ds := [.sc (.int .i64 e_2)]) rfl
    try simp at c_6
    cases hp
    simp [Goal, FnEnd, h_1, b_4, b_5, c_6]
  · try simp at h_1
    try simp [h_1]
    rcases cond_cases hp with ⟨h_7, hp⟩ | ⟨h_7, hp⟩
    · try simp at h_7
      obtain ⟨e_8, h_9, hp⟩ := bind_some hp
      have b_10 := at_lo h_9
      have b_11 := at_hi h_9
      try simp at b_10
      try simp at b_11
      have c_12 := seg_at' h_9 0 1 (by decide) (ds := [.sc (.int .i64 e_8)]) rfl
      try simp at c_12
      cases hp
      simp [Goal, FnEnd, h_1, h_7, b_10, b_11, c_12]
    · try simp at h_7
      try simp [h_1, h_7]
      rcases cond_cases hp with ⟨h_13, hp⟩ | ⟨h_13, hp⟩
      · try simp at h_13
        obtain ⟨e_14, h_15, hp⟩ := bind_some hp
        have b_16 := at_lo h_15
        have b_17 := at_hi h_15
        try simp at b_16
        try simp at b_17
        have c_18 := seg_at' h_15 0 1 (by decide) (ds := [.sc (.int .i64 e_14)]) rfl
        try simp at c_18
        cases hp
        simp [Goal, FnEnd, h_1, h_7, h_13, b_16, b_17, c_18]
      · try simp at h_13
        try simp [h_1, h_7, h_13]
        rcases cond_cases hp with ⟨h_19, hp⟩ | ⟨h_19, hp⟩
        · try simp at h_19
          obtain ⟨e_20, h_21, hp⟩ := bind_some hp
          have b_22 := at_lo h_21
          have b_23 := at_hi h_21
          try simp at b_22
          try simp at b_23
          have c_24 := seg_at' h_21 0 1 (by decide) (ds := [.sc (.int .i64 e_20)]) rfl
          try simp at c_24
          cases hp
          simp [Goal, FnEnd, h_1, h_7, h_13, h_19, b_22, b_23, c_24]
        · try simp at h_19
          cases hp
          simp [Goal, FnEnd, h_1, h_7, h_13, h_19]
theorem pc51 : PC Try.prog 51 C51 := pc_of (g := g51) (ctxOK_of [] rfl trivial) ⟨Try.f51, Try.func51, by kernel_rfl, by kernel_rfl⟩ fun x y h => w51 h

noncomputable def C101 : List AV → Option AV := specP (X := Bool × Unit) fun x => spec_l1Bit x.1
theorem C101_eq {on} {y} (h : spec_l1Bit on = some y) : C101 [av .shr on] = some (Res.res y) := specP_eq (X := Bool × Unit) (F := fun x => spec_l1Bit x.1) (x := (on, ())) h
noncomputable def g101 : Cfg := { P := Try.prog, take := [], keep := [], gho := [], ctx := [] }
@[simp] theorem g101_P : g101.P = Try.prog := rfl
@[simp] theorem g101_t : g101.take = [] := rfl
@[simp] theorem g101_g : g101.gho = [] := rfl
@[simp] theorem g101_r : g101.ro = [] := rfl
@[simp] theorem g101_w : g101.away = [] ∧ g101.give = [] ∧ g101.octx = [] := by rw [g101]; exact ⟨rfl, rfl, rfl⟩
set_option maxHeartbeats 4000000 in
set_option maxRecDepth 100000 in
theorem w101 {on} {y} (hp : spec_l1Bit on = some y) : ∃ m, callo g101 0 101 [av .shr on] mem0 = some (Res.res y, m) := by
  refine start_fn (Try.f101.body.getD .skip) [.tmp 2] rfl rfl Try.func101 (by kernel_rfl) (by kernel_rfl) (by simp [Try.ntmps101]) rfl ?_
  unfold spec_l1Bit at hp
  simp [Try.f101]
  rcases cond_cases hp with ⟨h_1, hp⟩ | ⟨h_1, hp⟩
  · try simp at h_1
    cases hp
    simp [Goal, FnEnd, h_1]
  · try simp at h_1
    cases hp
    simp [Goal, FnEnd, h_1]
theorem pc101 : PC Try.prog 101 C101 := pc_of (g := g101) (ctxOK_of [] rfl trivial) ⟨Try.f101, Try.func101, by kernel_rfl, by kernel_rfl⟩ fun x y h => w101 h

noncomputable def C96 : List AV → Option AV := specP (X := THeap × Int × Unit) fun x => spec_l8Without x.1 x.2.1
theorem C96_eq {h_ cell} {y} (h : spec_l8Without h_ cell = some y) : C96 [av .shr h_, av .shr cell] = some (Res.res y) := specP_eq (X := THeap × Int × Unit) (F := fun x => spec_l8Without x.1 x.2.1) (x := (h_, cell, ())) h
noncomputable def g96 : Cfg := { P := Try.prog, take := [(96, 17), (96, 46), (96, 64)], keep := [((96, 3), { hd := [1, 2, 4, 5, 6], bx := [], ex := [1, 2, 4, 5], rt := [4] }), ((96, 7), { hd := [1, 2, 4, 5, 7], bx := [], ex := [4, 5], rt := [4] })], gho := [], ctx := [(101, C101)] }
@[simp] theorem g96_P : g96.P = Try.prog := rfl
@[simp] theorem g96_t : g96.take = [(96, 17), (96, 46), (96, 64)] := rfl
@[simp] theorem g96_g : g96.gho = [] := rfl
@[simp] theorem g96_r : g96.ro = [] := rfl
@[simp] theorem g96_w : g96.away = [] ∧ g96.give = [] ∧ g96.octx = [] := by rw [g96]; exact ⟨rfl, rfl, rfl⟩
@[simp] theorem g96_101 : lookN 101 g96.ctx = some C101 := rfl
set_option maxHeartbeats 4000000 in
set_option maxRecDepth 100000 in
theorem w96 {h_ cell} {y} (hp : spec_l8Without h_ cell = some y) : ∃ m, callo g96 0 96 [av .shr h_, av .shr cell] mem0 = some (Res.res y, m) := by
  refine start_fn (Try.f96.body.getD .skip) [.cell 4 38] rfl rfl Try.func96 (by kernel_rfl) (by kernel_rfl) (by simp [Try.ntmps96]) rfl ?_
  unfold spec_l8Without at hp
  simp [Try.f96]
  obtain ⟨r_31, h_32, hp⟩ := bind_some hp
  obtain ⟨I_3, I_3_⟩ : ∃ I : Int × (List Int) → St → Prop, I = (fun (s_1 : Int × (List Int)) (σ : St) => σ.env 1 = .one (.s (.int .i64 cell)) ∧ σ.env 2 = .one (.ptr (1, 2) 0) ∧ σ.env 4 = .one (.ptr (1, 4) 0) ∧ σ.env 5 = .one (.ptr (1, 5) 0) ∧ σ.env 6 = .one (.s (.int .i64 s_1.1)) ∧ σ.mem (1, 2) = some [(.l .shr h_.vars.length (encL h_.vars)), (.l .shr h_.next.length (encL h_.next))] ∧ σ.mem (1, 4) = some [(.l .own 0 []), (.l .own 0 [])] ∧ σ.mem (1, 5) = some [(.l .own s_1.2.length (encL s_1.2)), (.l .own 0 [])] ∧ NoBox [(1, 2), (1, 4), (1, 5)] σ.mem) := ⟨_, rfl⟩
  obtain ⟨X_4, X_4_⟩ : ∃ X : (List Int) → Out → Prop, X = (fun (r_31 : (List Int)) (out : Out) => ∃ σ : St, out = .exit 0 σ ∧ σ.env 1 = .one (.s (.int .i64 cell)) ∧ σ.env 2 = .one (.ptr (1, 2) 0) ∧ σ.env 4 = .one (.ptr (1, 4) 0) ∧ σ.env 5 = .one (.ptr (1, 5) 0) ∧ σ.mem (1, 2) = some [(.l .shr h_.vars.length (encL h_.vars)), (.l .shr h_.next.length (encL h_.next))] ∧ σ.mem (1, 4) = some [(.l .own 0 []), (.l .own 0 [])] ∧ σ.mem (1, 5) = some [(.l .own r_31.length (encL r_31)), (.l .own 0 [])] ∧ NoBox [(1, 2), (1, 4), (1, 5)] σ.mem) := ⟨_, rfl⟩
  refine loopP ({ hd := [1, 2, 4, 5, 6], bx := [], ex := [1, 2, 4, 5], rt := [4] }) I_3 X_4 h_32 (by exact rfl) ?_ ?_ ?_
  · rw [I_3_]
    refine ⟨?_, ?_, ?_, ?_, ?_, ?_, ?_, ?_, NoBox.restrict (by intro k hk hb; simp at hk hb; simp [hk, hb])⟩ <;> simp [restrict_env, restrict_mem]
  · intro s_1 σ_5 a_2 hI hp
    rw [I_3_] at hI
    obtain ⟨q_6, q_7, q_8, q_9, q_10, q_11, q_12, q_13, hn_14⟩ := hI
    try simp [q_6, q_7, q_8, q_9, q_10, q_11, q_12, q_13]
    rcases cond_cases hp with ⟨h_15, hp⟩ | ⟨h_15, hp⟩
    · try simp at h_15
      obtain ⟨e_16, h_17, hp⟩ := bind_some hp
      have b_18 := at_lo h_17
      have b_19 := at_hi h_17
      try simp at b_18
      try simp at b_19
      have c_20 := seg_at' h_17 0 1 (by decide) (ds := [.sc (.int .i64 e_16)]) rfl
      try simp at c_20
      obtain ⟨e_21, h_22, hp⟩ := bind_some hp
      cases Option.some.inj (h_17.symm.trans h_22)
      have b_23 := at_lo h_17
      have b_24 := at_hi h_17
      try simp at b_23
      try simp at b_24
      have c_25 := seg_at' h_17 0 1 (by decide) (ds := [.sc (.int .i64 e_16)]) rfl
      try simp at c_25
      obtain ⟨y_26, h_27, hp⟩ := bind_some hp
      have c_28 := C101_eq h_27
      simp at c_28
      obtain ⟨_, h_29, hp⟩ := bind_some hp
      have b_30 := room_ok h_29
      try simp at b_30
      cases hp
      try simp [q_6, q_7, q_8, q_9, q_10, q_11, q_12, q_13, h_15, b_18, b_19, c_20, b_23, b_24, c_25, c_28, b_30]
      refine goal_next ?_
      rw [I_3_]
      refine ⟨?_, ?_, ?_, ?_, ?_, ?_, ?_, ?_, NoBox.restrict (by intro k hk hb; simp at hk hb; simp [hk, hb, q_6, q_7, q_8, q_9, q_10, q_11, q_12, q_13, h_15, b_18, b_19, c_20, b_23, b_24, c_25, c_28, b_30, hn_14 k (by simp [hk, hb])])⟩ <;> simp [restrict_env, restrict_mem, q_6, q_7, q_8, q_9, q_10, q_11, q_12, q_13, h_15, b_18, b_19, c_20, b_23, b_24, c_25, c_28, b_30]
    · try simp at h_15
      cases hp
      try simp [q_6, q_7, q_8, q_9, q_10, q_11, q_12, q_13, h_15]
      refine goal_outX ?_
      rw [X_4_]
      refine ⟨_, rfl, ?_, ?_, ?_, ?_, ?_, ?_, ?_, NoBox.restrict (by intro k hk hb; simp at hk hb; simp [hk, hb, q_6, q_7, q_8, q_9, q_10, q_11, q_12, q_13, h_15, hn_14 k (by simp [hk, hb])])⟩ <;> simp [restrict_env, restrict_mem, q_6, q_7, q_8, q_9, q_10, q_11, q_12, q_13, h_15]
  · intro out hX
    rw [X_4_] at hX
    obtain ⟨σ_33, rfl, q_34, q_35, q_36, q_37, q_38, q_39, q_40, hn_41⟩ := hX
    try simp [q_34, q_35, q_36, q_37, q_38, q_39, q_40]
    obtain ⟨r_73, h_74, hp⟩ := bind_some hp
    obtain ⟨I_44, I_44_⟩ : ∃ I : Int × (List Int) → St → Prop, I = (fun (s_42 : Int × (List Int)) (σ : St) => σ.env 1 = .one (.s (.int .i64 cell)) ∧ σ.env 2 = .one (.ptr (1, 2) 0) ∧ σ.env 4 = .one (.ptr (1, 4) 0) ∧ σ.env 5 = .one (.ptr (1, 5) 0) ∧ σ.env 7 = .one (.s (.int .i64 s_42.1)) ∧ σ.mem (1, 2) = some [(.l .shr h_.vars.length (encL h_.vars)), (.l .shr h_.next.length (encL h_.next))] ∧ σ.mem (1, 4) = some [(.l .own 0 []), (.l .own 0 [])] ∧ σ.mem (1, 5) = some [(.l .own r_31.length (encL r_31)), (.l .own s_42.2.length (encL s_42.2))] ∧ NoBox [(1, 2), (1, 4), (1, 5)] σ.mem) := ⟨_, rfl⟩
    obtain ⟨X_45, X_45_⟩ : ∃ X : (List Int) → Out → Prop, X = (fun (r_73 : (List Int)) (out : Out) => ∃ σ : St, out = .exit 2 σ ∧ σ.env 4 = .one (.ptr (1, 4) 0) ∧ σ.env 5 = .one (.ptr (1, 5) 0) ∧ σ.mem (1, 2) = some [(.l .shr h_.vars.length (encL h_.vars)), (.l .shr h_.next.length (encL h_.next))] ∧ σ.mem (1, 4) = some [(.l .own 0 []), (.l .own 0 [])] ∧ σ.mem (1, 5) = some [(.l .own r_31.length (encL r_31)), (.l .own r_73.length (encL r_73))] ∧ NoBox [(1, 2), (1, 4), (1, 5)] σ.mem) := ⟨_, rfl⟩
    refine loopP ({ hd := [1, 2, 4, 5, 7], bx := [], ex := [4, 5], rt := [4] }) I_44 X_45 h_74 (by exact rfl) ?_ ?_ ?_
    · rw [I_44_]
      refine ⟨?_, ?_, ?_, ?_, ?_, ?_, ?_, ?_, NoBox.restrict (by intro k hk hb; simp at hk hb; simp [hk, hb, q_34, q_35, q_36, q_37, q_38, q_39, q_40, hn_41 k (by simp [hk, hb])])⟩ <;> simp [restrict_env, restrict_mem, q_34, q_35, q_36, q_37, q_38, q_39, q_40]
    · intro s_42 σ_46 a_43 hI hp
      rw [I_44_] at hI
      obtain ⟨q_47, q_48, q_49, q_50, q_51, q_52, q_53, q_54, hn_55⟩ := hI
      try simp [q_47, q_48, q_49, q_50, q_51, q_52, q_53, q_54]
      rcases cond_cases hp with ⟨h_56, hp⟩ | ⟨h_56, hp⟩
      · try simp at h_56
        try simp [q_47, q_48, q_49, q_50, q_51, q_52, q_53, q_54, h_56]
        rcases cond_cases hp with ⟨h_57, hp⟩ | ⟨h_57, hp⟩
        · try simp at h_57
          obtain ⟨e_58, h_59, hp⟩ := bind_some hp
          have b_60 := at_lo h_59
          have b_61 := at_hi h_59
          try simp at b_60
          try simp at b_61
          have c_62 := seg_at' h_59 0 1 (by decide) (ds := [.sc (.int .i64 e_58)]) rfl
          try simp at c_62
          obtain ⟨e_63, h_64, hp⟩ := bind_some hp
          cases Option.some.inj (h_59.symm.trans h_64)
          have b_65 := at_lo h_59
          have b_66 := at_hi h_59
          try simp at b_65
          try simp at b_66
          have c_67 := seg_at' h_59 0 1 (by decide) (ds := [.sc (.int .i64 e_58)]) rfl
          try simp at c_67
          obtain ⟨y_68, h_69, hp⟩ := bind_some hp
          have c_70 := C101_eq h_69
          simp at c_70
          obtain ⟨_, h_71, hp⟩ := bind_some hp
          have b_72 := room_ok h_71
          try simp at b_72
          cases hp
          try simp [q_47, q_48, q_49, q_50, q_51, q_52, q_53, q_54, h_56, h_57, b_60, b_61, c_62, b_65, b_66, c_67, c_70, b_72]
          refine goal_next ?_
          rw [I_44_]
          refine ⟨?_, ?_, ?_, ?_, ?_, ?_, ?_, ?_, NoBox.restrict (by intro k hk hb; simp at hk hb; simp [hk, hb, q_47, q_48, q_49, q_50, q_51, q_52, q_53, q_54, h_56, h_57, b_60, b_61, c_62, b_65, b_66, c_67, c_70, b_72, hn_55 k (by simp [hk, hb])])⟩ <;> simp [restrict_env, restrict_mem, q_47, q_48, q_49, q_50, q_51, q_52, q_53, q_54, h_56, h_57, b_60, b_61, c_62, b_65, b_66, c_67, c_70, b_72]
        · try simp at h_57
          cases hp
          try simp [q_47, q_48, q_49, q_50, q_51, q_52, q_53, q_54, h_56, h_57]
          refine goal_next ?_
          rw [I_44_]
          refine ⟨?_, ?_, ?_, ?_, ?_, ?_, ?_, ?_, NoBox.restrict (by intro k hk hb; simp at hk hb; simp [hk, hb, q_47, q_48, q_49, q_50, q_51, q_52, q_53, q_54, h_56, h_57, hn_55 k (by simp [hk, hb])])⟩ <;> simp [restrict_env, restrict_mem, q_47, q_48, q_49, q_50, q_51, q_52, q_53, q_54, h_56, h_57]
      · try simp at h_56
        cases hp
        try simp [q_47, q_48, q_49, q_50, q_51, q_52, q_53, q_54, h_56]
        refine goal_outX ?_
        rw [X_45_]
        refine ⟨_, rfl, ?_, ?_, ?_, ?_, ?_, NoBox.restrict (by intro k hk hb; simp at hk hb; simp [hk, hb, q_47, q_48, q_49, q_50, q_51, q_52, q_53, q_54, h_56, hn_55 k (by simp [hk, hb])])⟩ <;> simp [restrict_env, restrict_mem, q_47, q_48, q_49, q_50, q_51, q_52, q_53, q_54, h_56]
    · intro out hX
      rw [X_45_] at hX
      obtain ⟨σ_75, rfl, q_76, q_77, q_78, q_79, q_80, hn_81⟩ := hX
      cases hp
      simp [Goal, FnEnd, retR, rsrc, RSrc.val, nodupR, nodup, tupPart, q_76, q_77, q_78, q_79, q_80]
theorem pc96 : PC Try.prog 96 C96 := pc_of (g := g96) (ctxOK_of [(101, C101)] rfl ⟨pc101, trivial⟩) ⟨Try.f96, Try.func96, by kernel_rfl, by kernel_rfl⟩ fun x y h => w96 h
end Go.Proofs

