import Derived.Test.YtahcfnjgllpkdaaEvW0
set_option linter.unusedSimpArgs false
set_option linter.unusedVariables false
set_option linter.unnecessarySimpa false
namespace Go.Proofs
open Go.Ev
noncomputable def C104 : List AV → Option AV := specP (X := THeap × Unit) fun x => spec_l7Acyclic x.1
theorem C104_eq {h_} {y} (h : spec_l7Acyclic h_ = some y) : C104 [av .shr h_] = some (Res.res y) := specP_eq (X := THeap × Unit) (F := fun x => spec_l7Acyclic x.1) (x := (h_, ())) h
noncomputable def g104 : Cfg := { P := Try.prog, take := [], keep := [((104, 2), { hd := [1, 3], bx := [], ex := [], rt := [2] })], gho := [], ctx := [(150, C150)] }
@[simp] theorem g104_P : g104.P = Try.prog := rfl
@[simp] theorem g104_t : g104.take = [] := rfl
@[simp] theorem g104_g : g104.gho = [] := rfl
@[simp] theorem g104_150 : lookN 150 g104.ctx = some C150 := rfl
set_option maxHeartbeats 4000000 in
set_option maxRecDepth 100000 in
theorem w104 {h_} {y} (hp : spec_l7Acyclic h_ = some y) : ∃ m, callo g104 0 104 [av .shr h_] mem0 = some (Res.res y, m) := by
  refine start_fn (Try.f104.body.getD .skip) [.tmp 2] rfl rfl Try.func104 (by kernel_rfl) (by kernel_rfl) (by simp [Try.ntmps104]) rfl ?_
  unfold spec_l7Acyclic at hp
  simp [Try.f104]
  obtain ⟨r_26, h_27, hp⟩ := bind_some hp
  obtain ⟨I_3, I_3_⟩ : ∃ I : Int → St → Prop, I = (fun (s_1 : Int) (σ : St) => σ.env 1 = .one (.ptr (1, 1) 0) ∧ σ.env 3 = .one (.s (.int .i64 s_1)) ∧ σ.mem (1, 1) = some [(.l .shr h_.vars.length (encL h_.vars)), (.l .shr h_.next.length (encL h_.next))] ∧ NoBox [(1, 1)] σ.mem) := ⟨_, rfl⟩
  obtain ⟨X_4, X_4_⟩ : ∃ X : ((Unit) ⊕ (Unit)) → Out → Prop, X = (fun (r_26 : (Unit) ⊕ (Unit)) (out : Out) => Sum.elim (fun r_26 => ∃ σ : St, out = .ret σ ∧ σ.env 2 = .one (.s (.bool false)) ∧ σ.mem (1, 1) = some [(.l .shr h_.vars.length (encL h_.vars)), (.l .shr h_.next.length (encL h_.next))] ∧ NoBox [(1, 1)] σ.mem) (fun r_26 => ∃ σ : St, out = .exit 0 σ ∧ σ.mem (1, 1) = some [(.l .shr h_.vars.length (encL h_.vars)), (.l .shr h_.next.length (encL h_.next))] ∧ NoBox [(1, 1)] σ.mem) r_26) := ⟨_, rfl⟩
  refine loopP ({ hd := [1, 3], bx := [], ex := [], rt := [2] }) I_3 X_4 h_27 (by exact rfl) ?_ ?_ ?_
  · rw [I_3_]
    exact ⟨by simp [restrict_env], by simp [restrict_env], by simp [restrict_mem], NoBox.restrict (by intro k hk hb; simp at hk hb; simp [hk, hb])⟩
  · intro s_1 σ_5 a_2 hI hp
    rw [I_3_] at hI
    obtain ⟨q_6, q_7, q_8, hn_9⟩ := hI
    try simp [q_6, q_7, q_8]
    rcases cond_cases hp with ⟨h_10, hp⟩ | ⟨h_10, hp⟩
    · try simp at h_10
      obtain ⟨y_11, h_12, hp⟩ := bind_some hp
      have c_13 := C150_eq h_12
      simp at c_13
      try simp [q_6, q_7, q_8, h_10, c_13]
      rcases cond_cases hp with ⟨h_14, hp⟩ | ⟨h_14, hp⟩
      · try simp at h_14
        cases hp
        try simp [q_6, q_7, q_8, h_10, h_14]
        refine goal_outR ?_
        rw [X_4_]
        exact ⟨_, rfl, by simp [restrict_env, q_6, q_7, q_8, h_10, h_14], by simp [restrict_mem, q_6, q_7, q_8, h_10, h_14], NoBox.restrict (by intro k hk hb; simp at hk hb; simp [hk, hb, q_6, q_7, q_8, h_10, h_14, hn_9 k (by simp [hk, hb])])⟩
      · try simp at h_14
        obtain ⟨e_15, h_16, hp⟩ := bind_some hp
        have b_17 := at_lo h_16
        have b_18 := at_hi h_16
        try simp at b_17
        try simp at b_18
        have c_19 := seg_at' h_16 0 1 (by decide) (ds := [.sc (.int .i64 e_15)]) rfl
        try simp at c_19
        obtain ⟨e_20, h_21, hp⟩ := bind_some hp
        have b_22 := at_lo h_21
        have b_23 := at_hi h_21
        try simp at b_22
        try simp at b_23
        have c_24 := seg_at' h_21 0 1 (by decide) (ds := [.sc (.int .i64 e_20)]) rfl
        try simp at c_24
        try simp [q_6, q_7, q_8, h_10, h_14, b_17, b_18, c_19, b_22, b_23, c_24]
        rcases cond_cases hp with ⟨h_25, hp⟩ | ⟨h_25, hp⟩
        · try simp at h_25
          cases hp
          try simp [q_6, q_7, q_8, h_10, h_14, h_25]
          refine goal_outR ?_
          rw [X_4_]
          exact ⟨_, rfl, by simp [restrict_env, q_6, q_7, q_8, h_10, h_14, h_25], by simp [restrict_mem, q_6, q_7, q_8, h_10, h_14, h_25], NoBox.restrict (by intro k hk hb; simp at hk hb; simp [hk, hb, q_6, q_7, q_8, h_10, h_14, h_25, hn_9 k (by simp [hk, hb])])⟩
        · try simp at h_25
          cases hp
          try simp [q_6, q_7, q_8, h_10, h_14, h_25]
          refine goal_next ?_
          rw [I_3_]
          exact ⟨by simp [restrict_env, q_6, q_7, q_8, h_10, h_14, h_25], by simp [restrict_env, q_6, q_7, q_8, h_10, h_14, h_25], by simp [restrict_mem, q_6, q_7, q_8, h_10, h_14, h_25], NoBox.restrict (by intro k hk hb; simp at hk hb; simp [hk, hb, q_6, q_7, q_8, h_10, h_14, h_25, hn_9 k (by simp [hk, hb])])⟩
    · try simp at h_10
      cases hp
      try simp [q_6, q_7, q_8, h_10]
      refine goal_outX ?_
      rw [X_4_]
      exact ⟨_, rfl, by simp [restrict_mem, q_6, q_7, q_8, h_10], NoBox.restrict (by intro k hk hb; simp at hk hb; simp [hk, hb, q_6, q_7, q_8, h_10, hn_9 k (by simp [hk, hb])])⟩
  · intro out hX
    rw [X_4_] at hX
    rcases r_26 with r_26 | r_26
    · simp only [Sum.elim_inl, Sum.elim_inr] at hX hp
      obtain ⟨σ_28, rfl, q_29, q_30, hn_31⟩ := hX
      cases hp
      simp [Goal, FnEnd, q_29, q_30]
    · simp only [Sum.elim_inl, Sum.elim_inr] at hX hp
      obtain ⟨σ_32, rfl, q_33, hn_34⟩ := hX
      cases hp
      simp [Goal, FnEnd, q_33]
theorem pc104 : PC Try.prog 104 C104 := pc_of (g := g104) (ctxOK_of [(150, C150)] rfl ⟨pc150, trivial⟩) ⟨Try.f104, Try.func104, by kernel_rfl, by kernel_rfl⟩ fun x y h => w104 h

noncomputable def C105 : List AV → Option AV := specP (X := THeap × Unit) fun x => spec_l7Order x.1
theorem C105_eq {h_} {y} (h : spec_l7Order h_ = some y) : C105 [av .shr h_] = some (Res.res y) := specP_eq (X := THeap × Unit) (F := fun x => spec_l7Order x.1) (x := (h_, ())) h
noncomputable def g105 : Cfg := { P := Try.prog, take := [(105, 35), (105, 42)], keep := [((105, 3), { hd := [1, 3, 4], bx := [], ex := [3], rt := [2] }), ((105, 7), { hd := [1, 3, 4, 5, 6], bx := [], ex := [1, 3, 4], rt := [2] })], gho := [], ctx := [(149, C149), (150, C150)] }
@[simp] theorem g105_P : g105.P = Try.prog := rfl
@[simp] theorem g105_t : g105.take = [(105, 35), (105, 42)] := rfl
@[simp] theorem g105_g : g105.gho = [] := rfl
@[simp] theorem g105_149 : lookN 149 g105.ctx = some C149 := rfl
@[simp] theorem g105_150 : lookN 150 g105.ctx = some C150 := rfl
set_option maxHeartbeats 4000000 in
set_option maxRecDepth 100000 in
theorem w105 {h_} {y} (hp : spec_l7Order h_ = some y) : ∃ m, callo g105 0 105 [av .shr h_] mem0 = some (Res.res y, m) := by
  refine start_fn (Try.f105.body.getD .skip) [.tmp 2] rfl rfl Try.func105 (by kernel_rfl) (by kernel_rfl) (by simp [Try.ntmps105]) rfl ?_
  unfold spec_l7Order at hp
  simp [Try.f105]
  obtain ⟨r_57, h_58, hp⟩ := bind_some hp
  obtain ⟨I_3, I_3_⟩ : ∃ I : (List Int) × Int → St → Prop, I = (fun (s_1 : (List Int) × Int) (σ : St) => σ.env 1 = .one (.ptr (1, 1) 0) ∧ σ.env 3 = .one (.l .own s_1.1.length (encL s_1.1)) ∧ σ.env 4 = .one (.s (.int .i64 s_1.2)) ∧ σ.mem (1, 1) = some [(.l .shr h_.vars.length (encL h_.vars)), (.l .shr h_.next.length (encL h_.next))] ∧ NoBox [(1, 1)] σ.mem) := ⟨_, rfl⟩
  obtain ⟨X_4, X_4_⟩ : ∃ X : (List Int) → Out → Prop, X = (fun (r_57 : (List Int)) (out : Out) => ∃ σ : St, out = .exit 0 σ ∧ σ.env 3 = .one (.l .own r_57.length (encL r_57)) ∧ σ.mem (1, 1) = some [(.l .shr h_.vars.length (encL h_.vars)), (.l .shr h_.next.length (encL h_.next))] ∧ NoBox [(1, 1)] σ.mem) := ⟨_, rfl⟩
  refine loopP ({ hd := [1, 3, 4], bx := [], ex := [3], rt := [2] }) I_3 X_4 h_58 (by exact rfl) ?_ ?_ ?_
  · rw [I_3_]
    exact ⟨by simp [restrict_env], by simp [restrict_env], by simp [restrict_env], by simp [restrict_mem], NoBox.restrict (by intro k hk hb; simp at hk hb; simp [hk, hb])⟩
  · intro s_1 σ_5 a_2 hI hp
    rw [I_3_] at hI
    obtain ⟨q_6, q_7, q_8, q_9, hn_10⟩ := hI
    try simp [q_6, q_7, q_8, q_9]
    rcases cond_cases hp with ⟨h_11, hp⟩ | ⟨h_11, hp⟩
    · try simp at h_11
      obtain ⟨e_12, h_13, hp⟩ := bind_some hp
      have b_14 := at_lo h_13
      have b_15 := at_hi h_13
      try simp at b_14
      try simp at b_15
      have c_16 := seg_at' h_13 0 1 (by decide) (ds := [.sc (.int .i64 e_12)]) rfl
      try simp at c_16
      obtain ⟨y_17, h_18, hp⟩ := bind_some hp
      have c_19 := C150_eq h_18
      simp at c_19
      try simp [q_6, q_7, q_8, q_9, h_11, b_14, b_15, c_16, c_19]
      obtain ⟨r_49, h_50, hp⟩ := bind_some hp
      obtain ⟨I_22, I_22_⟩ : ∃ I : Int × (List Int) → St → Prop, I = (fun (s_20 : Int × (List Int)) (σ : St) => σ.env 1 = .one (.ptr (1, 1) 0) ∧ σ.env 3 = .one (.l .own s_20.2.length (encL s_20.2)) ∧ σ.env 4 = .one (.s (.int .i64 s_1.2)) ∧ σ.env 5 = .one (.l .own y_17.length (encL y_17)) ∧ σ.env 6 = .one (.s (.int .i64 s_20.1)) ∧ σ.mem (1, 1) = some [(.l .shr h_.vars.length (encL h_.vars)), (.l .shr h_.next.length (encL h_.next))] ∧ NoBox [(1, 1)] σ.mem) := ⟨_, rfl⟩
      obtain ⟨X_23, X_23_⟩ : ∃ X : (List Int) → Out → Prop, X = (fun (r_49 : (List Int)) (out : Out) => ∃ σ : St, out = .exit 2 σ ∧ σ.env 1 = .one (.ptr (1, 1) 0) ∧ σ.env 3 = .one (.l .own r_49.length (encL r_49)) ∧ σ.env 4 = .one (.s (.int .i64 s_1.2)) ∧ σ.mem (1, 1) = some [(.l .shr h_.vars.length (encL h_.vars)), (.l .shr h_.next.length (encL h_.next))] ∧ NoBox [(1, 1)] σ.mem) := ⟨_, rfl⟩
      refine loopP ({ hd := [1, 3, 4, 5, 6], bx := [], ex := [1, 3, 4], rt := [2] }) I_22 X_23 h_50 (by exact rfl) ?_ ?_ ?_
      · rw [I_22_]
        exact ⟨by simp [restrict_env, q_6, q_7, q_8, q_9, h_11], by simp [restrict_env, q_6, q_7, q_8, q_9, h_11], by simp [restrict_env, q_6, q_7, q_8, q_9, h_11], by simp [restrict_env, q_6, q_7, q_8, q_9, h_11], by simp [restrict_env, q_6, q_7, q_8, q_9, h_11], by simp [restrict_mem, q_6, q_7, q_8, q_9, h_11], NoBox.restrict (by intro k hk hb; simp at hk hb; simp [hk, hb, q_6, q_7, q_8, q_9, h_11, hn_10 k (by simp [hk, hb])])⟩
      · intro s_20 σ_24 a_21 hI hp
        rw [I_22_] at hI
        obtain ⟨q_25, q_26, q_27, q_28, q_29, q_30, hn_31⟩ := hI
        try simp [h_11, q_25, q_26, q_27, q_28, q_29, q_30]
        rcases cond_cases hp with ⟨h_32, hp⟩ | ⟨h_32, hp⟩
        · try simp at h_32
          obtain ⟨e_33, h_34, hp⟩ := bind_some hp
          have b_35 := at_lo h_34
          have b_36 := at_hi h_34
          try simp at b_35
          try simp at b_36
          have c_37 := seg_at' h_34 0 1 (by decide) (ds := [.sc (.int .i64 e_33)]) rfl
          try simp at c_37
          obtain ⟨y_38, h_39, hp⟩ := bind_some hp
          have c_40 := C149_eq h_39
          simp at c_40
          try simp [h_11, q_25, q_26, q_27, q_28, q_29, q_30, h_32, b_35, b_36, c_37, c_40]
          rcases cond_cases hp with ⟨h_41, hp⟩ | ⟨h_41, hp⟩
          · try simp at h_41
            cases hp
            try simp [h_11, q_25, q_26, q_27, q_28, q_29, q_30, h_32, h_41]
            refine goal_next ?_
            rw [I_22_]
            exact ⟨by simp [restrict_env, h_11, q_25, q_26, q_27, q_28, q_29, q_30, h_32, h_41], by simp [restrict_env, h_11, q_25, q_26, q_27, q_28, q_29, q_30, h_32, h_41], by simp [restrict_env, h_11, q_25, q_26, q_27, q_28, q_29, q_30, h_32, h_41], by simp [restrict_env, h_11, q_25, q_26, q_27, q_28, q_29, q_30, h_32, h_41], by simp [restrict_env, h_11, q_25, q_26, q_27, q_28, q_29, q_30, h_32, h_41], by simp [restrict_mem, h_11, q_25, q_26, q_27, q_28, q_29, q_30, h_32, h_41], NoBox.restrict (by intro k hk hb; simp at hk hb; simp [hk, hb, h_11, q_25, q_26, q_27, q_28, q_29, q_30, h_32, h_41, hn_31 k (by simp [hk, hb])])⟩
          · try simp at h_41
            obtain ⟨e_42, h_43, hp⟩ := bind_some hp
            cases Option.some.inj (h_34.symm.trans h_43)
            have b_44 := at_lo h_34
            have b_45 := at_hi h_34
            try simp at b_44
            try simp at b_45
            have c_46 := seg_at' h_34 0 1 (by decide) (ds := [.sc (.int .i64 e_33)]) rfl
            try simp at c_46
            obtain ⟨_, h_47, hp⟩ := bind_some hp
            have b_48 := room_ok h_47
            try simp at b_48
            cases hp
            try simp [h_11, q_25, q_26, q_27, q_28, q_29, q_30, h_32, h_41, b_44, b_45, c_46, b_48]
            refine goal_next ?_
            rw [I_22_]
            exact ⟨by simp [restrict_env, h_11, q_25, q_26, q_27, q_28, q_29, q_30, h_32, h_41, b_44, b_45, c_46, b_48], by simp [restrict_env, h_11, q_25, q_26, q_27, q_28, q_29, q_30, h_32, h_41, b_44, b_45, c_46, b_48], by simp [restrict_env, h_11, q_25, q_26, q_27, q_28, q_29, q_30, h_32, h_41, b_44, b_45, c_46, b_48], by simp [restrict_env, h_11, q_25, q_26, q_27, q_28, q_29, q_30, h_32, h_41, b_44, b_45, c_46, b_48], by simp [restrict_env, h_11, q_25, q_26, q_27, q_28, q_29, q_30, h_32, h_41, b_44, b_45, c_46, b_48], by simp [restrict_mem, h_11, q_25, q_26, q_27, q_28, q_29, q_30, h_32, h_41, b_44, b_45, c_46, b_48], NoBox.restrict (by intro k hk hb; simp at hk hb; simp [hk, hb, h_11, q_25, q_26, q_27, q_28, q_29, q_30, h_32, h_41, b_44, b_45, c_46, b_48, hn_31 k (by simp [hk, hb])])⟩
        · try simp at h_32
          cases hp
          try simp [h_11, q_25, q_26, q_27, q_28, q_29, q_30, h_32]
          refine goal_outX ?_
          rw [X_23_]
          exact ⟨_, rfl, by simp [restrict_env, h_11, q_25, q_26, q_27, q_28, q_29, q_30, h_32], by simp [restrict_env, h_11, q_25, q_26, q_27, q_28, q_29, q_30, h_32], by simp [restrict_env, h_11, q_25, q_26, q_27, q_28, q_29, q_30, h_32], by simp [restrict_mem, h_11, q_25, q_26, q_27, q_28, q_29, q_30, h_32], NoBox.restrict (by intro k hk hb; simp at hk hb; simp [hk, hb, h_11, q_25, q_26, q_27, q_28, q_29, q_30, h_32, hn_31 k (by simp [hk, hb])])⟩
      · intro out hX
        rw [X_23_] at hX
        obtain ⟨σ_51, rfl, q_52, q_53, q_54, q_55, hn_56⟩ := hX
        cases hp
        try simp [h_11, q_52, q_53, q_54, q_55]
        refine goal_next ?_
        rw [I_3_]
        exact ⟨by simp [restrict_env, h_11, q_52, q_53, q_54, q_55], by simp [restrict_env, h_11, q_52, q_53, q_54, q_55], by simp [restrict_env, h_11, q_52, q_53, q_54, q_55], by simp [restrict_mem, h_11, q_52, q_53, q_54, q_55], NoBox.restrict (by intro k hk hb; simp at hk hb; simp [hk, hb, h_11, q_52, q_53, q_54, q_55, hn_56 k (by simp [hk, hb])])⟩
    · try simp at h_11
      cases hp
      try simp [q_6, q_7, q_8, q_9, h_11]
      refine goal_outX ?_
      rw [X_4_]
      exact ⟨_, rfl, by simp [restrict_env, q_6, q_7, q_8, q_9, h_11], by simp [restrict_mem, q_6, q_7, q_8, q_9, h_11], NoBox.restrict (by intro k hk hb; simp at hk hb; simp [hk, hb, q_6, q_7, q_8, q_9, h_11, hn_10 k (by simp [hk, hb])])⟩
  · intro out hX
    rw [X_4_] at hX
    obtain ⟨σ_59, rfl, q_60, q_61, hn_62⟩ := hX
    cases hp
    simp [Goal, FnEnd, q_60, q_61]
theorem pc105 : PC Try.prog 105 C105 := pc_of (g := g105) (ctxOK_of [(149, C149), (150, C150)] rfl ⟨pc149, pc150, trivial⟩) ⟨Try.f105, Try.func105, by kernel_rfl, by kernel_rfl⟩ fun x y h => w105 h

noncomputable def C47 : List AV → Option AV := specP (X := Int × THeap × Unit) fun x => spec_IsHeap x.1 x.2.1
theorem C47_eq {vars h_} {y} (h : spec_IsHeap vars h_ = some y) : C47 [av .shr vars, av .shr h_] = some (Res.res y) := specP_eq (X := Int × THeap × Unit) (F := fun x => spec_IsHeap x.1 x.2.1) (x := (vars, h_, ())) h
noncomputable def g47 : Cfg := { P := Try.prog, take := [], keep := [((47, 5), { hd := [3, 5, 6], bx := [], ex := [3, 5], rt := [4] })], gho := [], ctx := [(45, C45), (103, C103), (104, C104), (105, C105)] }
@[simp] theorem g47_P : g47.P = Try.prog := rfl
@[simp] theorem g47_t : g47.take = [] := rfl
@[simp] theorem g47_g : g47.gho = [] := rfl
@[simp] theorem g47_45 : lookN 45 g47.ctx = some C45 := rfl
@[simp] theorem g47_103 : lookN 103 g47.ctx = some C103 := rfl
@[simp] theorem g47_104 : lookN 104 g47.ctx = some C104 := rfl
@[simp] theorem g47_105 : lookN 105 g47.ctx = some C105 := rfl
set_option maxHeartbeats 4000000 in
set_option maxRecDepth 100000 in
theorem w47 {vars h_} {y} (hp : spec_IsHeap vars h_ = some y) : ∃ m, callo g47 0 47 [av .shr vars, av .shr h_] mem0 = some (Res.res y, m) := by
  refine start_fn (Try.f47.body.getD .skip) [.tmp 4] rfl rfl Try.func47 (by kernel_rfl) (by kernel_rfl) (by simp [Try.ntmps47]) rfl ?_
  unfold spec_IsHeap at hp
  obtain ⟨y_1, h_2, hp⟩ := bind_some hp
  have c_3 := C45_eq h_2
  simp at c_3
  simp [Try.f47, c_3]
  rcases cond_cases hp with ⟨h_4, hp⟩ | ⟨h_4, hp⟩
  · try simp at h_4
    try simp [h_4]
    rcases cond_cases hp with ⟨h_5, hp⟩ | ⟨h_5, hp⟩
    · try simp at h_5
      cases hp
      simp [Goal, FnEnd, h_4, h_5]
    · try simp at h_5
      try simp [h_4, h_5]
      rcases cond_cases hp with ⟨h_6, hp⟩ | ⟨h_6, hp⟩
      · try simp at h_6
        cases hp
        simp [Goal, FnEnd, h_4, h_5, h_6]
      · try simp at h_6
        obtain ⟨y_7, h_8, hp⟩ := bind_some hp
        have c_9 := C103_eq h_8
        simp at c_9
        try simp [h_4, h_5, h_6, c_9]
        rcases cond_cases hp with ⟨h_10, hp⟩ | ⟨h_10, hp⟩
        · try simp at h_10
          obtain ⟨y_11, h_12, hp⟩ := bind_some hp
          have c_13 := C104_eq h_12
          simp at c_13
          try simp [h_4, h_5, h_6, h_10, c_13]
          rcases cond_cases hp with ⟨h_14, hp⟩ | ⟨h_14, hp⟩
          · try simp at h_14
            obtain ⟨y_15, h_16, hp⟩ := bind_some hp
            have c_17 := C105_eq h_16
            simp at c_17
            try simp [h_4, h_5, h_6, h_10, h_14, c_17]
            obtain ⟨r_35, h_36, hp⟩ := bind_some hp
            obtain ⟨I_20, I_20_⟩ : ∃ I : Int → St → Prop, I = (fun (s_18 : Int) (σ : St) => σ.env 3 = .one (.ptr (1, 3) 0) ∧ σ.env 5 = .one (.l .own y_15.length (encL y_15)) ∧ σ.env 6 = .one (.s (.int .i64 s_18)) ∧ σ.mem (1, 3) = some [(.l .shr h_.vars.length (encL h_.vars)), (.l .shr h_.next.length (encL h_.next))] ∧ NoBox [(1, 3)] σ.mem) := ⟨_, rfl⟩
            obtain ⟨X_21, X_21_⟩ : ∃ X : ((Unit) ⊕ (Unit)) → Out → Prop, X = (fun (r_35 : (Unit) ⊕ (Unit)) (out : Out) => Sum.elim (fun r_35 => ∃ σ : St, out = .ret σ ∧ σ.env 4 = .one (.s (.bool false)) ∧ σ.mem (1, 3) = some [(.l .shr h_.vars.length (encL h_.vars)), (.l .shr h_.next.length (encL h_.next))] ∧ NoBox [(1, 3)] σ.mem) (fun r_35 => ∃ σ : St, out = .exit 0 σ ∧ σ.env 3 = .one (.ptr (1, 3) 0) ∧ σ.env 5 = .one (.l .own y_15.length (encL y_15)) ∧ σ.mem (1, 3) = some [(.l .shr h_.vars.length (encL h_.vars)), (.l .shr h_.next.length (encL h_.next))] ∧ NoBox [(1, 3)] σ.mem) r_35) := ⟨_, rfl⟩
            refine loopP ({ hd := [3, 5, 6], bx := [], ex := [3, 5], rt := [4] }) I_20 X_21 h_36 (by exact rfl) ?_ ?_ ?_
            · rw [I_20_]
              exact ⟨by simp [restrict_env, h_4, h_5, h_6, h_10, h_14], by simp [restrict_env, h_4, h_5, h_6, h_10, h_14], by simp [restrict_env, h_4, h_5, h_6, h_10, h_14], by simp [restrict_mem, h_4, h_5, h_6, h_10, h_14], NoBox.restrict (by intro k hk hb; simp at hk hb; simp [hk, hb, h_4, h_5, h_6, h_10, h_14])⟩
            · intro s_18 σ_22 a_19 hI hp
              rw [I_20_] at hI
              obtain ⟨q_23, q_24, q_25, q_26, hn_27⟩ := hI
              try simp [h_4, h_5, h_6, h_10, h_14, q_23, q_24, q_25, q_26]
              rcases cond_cases hp with ⟨h_28, hp⟩ | ⟨h_28, hp⟩
              · try simp at h_28
                obtain ⟨e_29, h_30, hp⟩ := bind_some hp
                have b_31 := at_lo h_30
                have b_32 := at_hi h_30
                try simp at b_31
                try simp at b_32
                have c_33 := seg_at' h_30 0 1 (by decide) (ds := [.sc (.int .i64 e_29)]) rfl
                try simp at c_33
                try simp [h_4, h_5, h_6, h_10, h_14, q_23, q_24, q_25, q_26, h_28, b_31, b_32, c_33]
                rcases cond_cases hp with ⟨h_34, hp⟩ | ⟨h_34, hp⟩
                · try simp at h_34
                  cases hp
                  try simp [h_4, h_5, h_6, h_10, h_14, q_23, q_24, q_25, q_26, h_28, h_34]
                  refine goal_outR ?_
                  rw [X_21_]
                  exact ⟨_, rfl, by simp [restrict_env, h_4, h_5, h_6, h_10, h_14, q_23, q_24, q_25, q_26, h_28, h_34], by simp [restrict_mem, h_4, h_5, h_6, h_10, h_14, q_23, q_24, q_25, q_26, h_28, h_34], NoBox.restrict (by intro k hk hb; simp at hk hb; simp [hk, hb, h_4, h_5, h_6, h_10, h_14, q_23, q_24, q_25, q_26, h_28, h_34, hn_27 k (by simp [hk, hb])])⟩
                · try simp at h_34
                  cases hp
                  try simp [h_4, h_5, h_6, h_10, h_14, q_23, q_24, q_25, q_26, h_28, h_34]
                  refine goal_next ?_
                  rw [I_20_]
                  exact ⟨by simp [restrict_env, h_4, h_5, h_6, h_10, h_14, q_23, q_24, q_25, q_26, h_28, h_34], by simp [restrict_env, h_4, h_5, h_6, h_10, h_14, q_23, q_24, q_25, q_26, h_28, h_34], by simp [restrict_env, h_4, h_5, h_6, h_10, h_14, q_23, q_24, q_25, q_26, h_28, h_34], by simp [restrict_mem, h_4, h_5, h_6, h_10, h_14, q_23, q_24, q_25, q_26, h_28, h_34], NoBox.restrict (by intro k hk hb; simp at hk hb; simp [hk, hb, h_4, h_5, h_6, h_10, h_14, q_23, q_24, q_25, q_26, h_28, h_34, hn_27 k (by simp [hk, hb])])⟩
              · try simp at h_28
                cases hp
                try simp [h_4, h_5, h_6, h_10, h_14, q_23, q_24, q_25, q_26, h_28]
                refine goal_outX ?_
                rw [X_21_]
                exact ⟨_, rfl, by simp [restrict_env, h_4, h_5, h_6, h_10, h_14, q_23, q_24, q_25, q_26, h_28], by simp [restrict_env, h_4, h_5, h_6, h_10, h_14, q_23, q_24, q_25, q_26, h_28], by simp [restrict_mem, h_4, h_5, h_6, h_10, h_14, q_23, q_24, q_25, q_26, h_28], NoBox.restrict (by intro k hk hb; simp at hk hb; simp [hk, hb, h_4, h_5, h_6, h_10, h_14, q_23, q_24, q_25, q_26, h_28, hn_27 k (by simp [hk, hb])])⟩
            · intro out hX
              rw [X_21_] at hX
              rcases r_35 with r_35 | r_35
              · simp only [Sum.elim_inl, Sum.elim_inr] at hX hp
                obtain ⟨σ_37, rfl, q_38, q_39, hn_40⟩ := hX
                cases hp
                simp [Goal, FnEnd, h_4, h_5, h_6, h_10, h_14, q_38, q_39]
              · simp only [Sum.elim_inl, Sum.elim_inr] at hX hp
                obtain ⟨σ_41, rfl, q_42, q_43, q_44, hn_45⟩ := hX
                cases hp
                simp [Goal, FnEnd, h_4, h_5, h_6, h_10, h_14, q_42, q_43, q_44]
          · try simp at h_14
            cases hp
            simp [Goal, FnEnd, h_4, h_5, h_6, h_10, h_14]
        · try simp at h_10
          cases hp
          simp [Goal, FnEnd, h_4, h_5, h_6, h_10]
  · try simp at h_4
    cases hp
    simp [Goal, FnEnd, h_4]
theorem pc47 : PC Try.prog 47 C47 := pc_of (g := g47) (ctxOK_of [(45, C45), (103, C103), (104, C104), (105, C105)] rfl ⟨pc45, pc103, pc104, pc105, trivial⟩) ⟨Try.f47, Try.func47, by kernel_rfl, by kernel_rfl⟩ fun x y h => w47 h

noncomputable def C48 : List AV → Option AV := specP (X := THeap × Unit) fun x => spec_l7Copy x.1
theorem C48_eq {h_} {y} (h : spec_l7Copy h_ = some y) : C48 [av .shr h_] = some (Res.res y) := specP_eq (X := THeap × Unit) (F := fun x => spec_l7Copy x.1) (x := (h_, ())) h
noncomputable def g48 : Cfg := { P := Try.prog, take := [], keep := [], gho := [], ctx := [] }
@[simp] theorem g48_P : g48.P = Try.prog := rfl
@[simp] theorem g48_t : g48.take = [] := rfl
@[simp] theorem g48_g : g48.gho = [] := rfl
set_option maxHeartbeats 4000000 in
set_option maxRecDepth 100000 in
theorem w48 {h_} {y} (hp : spec_l7Copy h_ = some y) : ∃ m, callo g48 0 48 [av .shr h_] mem0 = some (Res.res y, m) := by
  refine start_fn (Try.f48.body.getD .skip) [.cell 2 72] rfl rfl Try.func48 (by kernel_rfl) (by kernel_rfl) (by simp [Try.ntmps48]) rfl ?_
  unfold spec_l7Copy at hp
  obtain ⟨_, h_1, hp⟩ := bind_some hp
  have b_2 := room_ok h_1
  try simp at b_2
  obtain ⟨_, h_3, hp⟩ := bind_some hp
  have b_4 := room_ok h_3
  try simp at b_4
  cases hp
  simp [Try.f48, Goal, FnEnd, retR, rsrc, RSrc.val, nodupR, nodup, tupPart, b_2, b_4]
theorem pc48 : PC Try.prog 48 C48 := pc_of (g := g48) (fun f F h => by cases h) ⟨Try.f48, Try.func48, by kernel_rfl, by kernel_rfl⟩ fun x y h => w48 h

noncomputable def C9 : List AV → Option AV := specP (X := Int × Int × Unit) fun x => spec_SmallHeaps x.1 x.2.1
theorem C9_eq {vars cells} {y} (h : spec_SmallHeaps vars cells = some y) : C9 [av .shr vars, av .shr cells] = some (Res.res y) := specP_eq (X := Int × Int × Unit) (F := fun x => spec_SmallHeaps x.1 x.2.1) (x := (vars, cells, ())) h
noncomputable def g9 : Cfg := { P := Try.prog, take := [(9, 21), (9, 59), (9, 64)], keep := [((9, 5), { hd := [0, 1, 5, 6], bx := [11], ex := [5], rt := [4] }), ((9, 10), { hd := [0, 1, 5, 6, 7, 8, 9], bx := [11], ex := [0, 1, 5, 6], rt := [4] }), ((9, 13), { hd := [0, 1, 5, 6, 7, 8, 9, 10], bx := [11], ex := [0, 1, 5, 6, 7, 8, 9], rt := [4] })], gho := [], ctx := [(45, C45), (46, C46), (47, C47), (48, C48)] }
@[simp] theorem g9_P : g9.P = Try.prog := rfl
@[simp] theorem g9_t : g9.take = [(9, 21), (9, 59), (9, 64)] := rfl
@[simp] theorem g9_g : g9.gho = [] := rfl
@[simp] theorem g9_45 : lookN 45 g9.ctx = some C45 := rfl
@[simp] theorem g9_46 : lookN 46 g9.ctx = some C46 := rfl
@[simp] theorem g9_47 : lookN 47 g9.ctx = some C47 := rfl
@[simp] theorem g9_48 : lookN 48 g9.ctx = some C48 := rfl
set_option maxHeartbeats 4000000 in
set_option maxRecDepth 100000 in
theorem w9 {vars cells} {y} (hp : spec_SmallHeaps vars cells = some y) : ∃ m, callo g9 0 9 [av .shr vars, av .shr cells] mem0 = some (Res.res y, m) := by
  refine start_fn (Try.f9.body.getD .skip) [.tmp 4] rfl rfl Try.func9 (by kernel_rfl) (by kernel_rfl) (by simp [Try.ntmps9]) rfl ?_
  unfold spec_SmallHeaps at hp
  obtain ⟨y_1, h_2, hp⟩ := bind_some hp
  have c_3 := C45_eq h_2
  simp at c_3
  simp [Try.f9, c_3]
  rcases cond_cases hp with ⟨h_4, hp⟩ | ⟨h_4, hp⟩
  · try simp at h_4
    obtain ⟨y_5, h_6, hp⟩ := bind_some hp
    have c_7 := C45_eq h_6
    simp at c_7
    try simp [h_4, c_7]
    rcases cond_cases hp with ⟨h_8, hp⟩ | ⟨h_8, hp⟩
    · try simp at h_8
      try simp [h_4, h_8]
      obtain ⟨r_94, h_95, hp⟩ := bind_some hp
      obtain ⟨I_11, I_11_⟩ : ∃ I : (List THeap) × Int → St → Prop, I = (fun (s_9 : (List THeap) × Int) (σ : St) => σ.env 0 = .one (.s (.int .i64 vars)) ∧ σ.env 1 = .one (.s (.int .i64 cells)) ∧ σ.env 5 = .one (.l .own s_9.1.length (encL s_9.1)) ∧ σ.env 6 = .one (.s (.int .i64 s_9.2)) ∧ NoBox [] σ.mem) := ⟨_, rfl⟩
      obtain ⟨X_12, X_12_⟩ : ∃ X : (List THeap) → Out → Prop, X = (fun (r_94 : (List THeap)) (out : Out) => ∃ σ : St, out = .exit 0 σ ∧ σ.env 5 = .one (.l .own r_94.length (encL r_94)) ∧ NoBox [] σ.mem) := ⟨_, rfl⟩
      refine loopP ({ hd := [0, 1, 5, 6], bx := [11], ex := [5], rt := [4] }) I_11 X_12 h_95 (by exact rfl) ?_ ?_ ?_
      · rw [I_11_]
        exact ⟨by simp [restrict_env, h_4, h_8], by simp [restrict_env, h_4, h_8], by simp [restrict_env, h_4, h_8], by simp [restrict_env, h_4, h_8], NoBox.restrict (by intro k hk hb; simp at hk hb; simp [hk, hb, h_4, h_8])⟩
      · intro s_9 σ_13 a_10 hI hp
        rw [I_11_] at hI
        obtain ⟨q_14, q_15, q_16, q_17, hn_18⟩ := hI
        try simp [h_4, h_8, q_14, q_15, q_16, q_17]
        rcases cond_cases hp with ⟨h_19, hp⟩ | ⟨h_19, hp⟩
        · try simp at h_19
          obtain ⟨y_20, h_21, hp⟩ := bind_some hp
          have c_22 := C46_eq h_21
          simp at c_22
          obtain ⟨y_23, h_24, hp⟩ := bind_some hp
          have c_25 := C46_eq h_24
          simp at c_25
          try simp [h_4, h_8, q_14, q_15, q_16, q_17, h_19, c_22, c_25]
          obtain ⟨r_86, h_87, hp⟩ := bind_some hp
          obtain ⟨I_28, I_28_⟩ : ∃ I : (List THeap) × Int → St → Prop, I = (fun (s_26 : (List THeap) × Int) (σ : St) => σ.env 0 = .one (.s (.int .i64 vars)) ∧ σ.env 1 = .one (.s (.int .i64 cells)) ∧ σ.env 5 = .one (.l .own s_26.1.length (encL s_26.1)) ∧ σ.env 6 = .one (.s (.int .i64 s_9.2)) ∧ σ.env 7 = .one (.l .own y_20.length (encL y_20)) ∧ σ.env 8 = .one (.l .own y_23.length (encL y_23)) ∧ σ.env 9 = .one (.s (.int .i64 s_26.2)) ∧ NoBox [] σ.mem) := ⟨_, rfl⟩
          obtain ⟨X_29, X_29_⟩ : ∃ X : (List THeap) → Out → Prop, X = (fun (r_86 : (List THeap)) (out : Out) => ∃ σ : St, out = .exit 2 σ ∧ σ.env 0 = .one (.s (.int .i64 vars)) ∧ σ.env 1 = .one (.s (.int .i64 cells)) ∧ σ.env 5 = .one (.l .own r_86.length (encL r_86)) ∧ σ.env 6 = .one (.s (.int .i64 s_9.2)) ∧ NoBox [] σ.mem) := ⟨_, rfl⟩
          refine loopP ({ hd := [0, 1, 5, 6, 7, 8, 9], bx := [11], ex := [0, 1, 5, 6], rt := [4] }) I_28 X_29 h_87 (by exact rfl) ?_ ?_ ?_
          · rw [I_28_]
            exact ⟨by simp [restrict_env, h_4, h_8, q_14, q_15, q_16, q_17, h_19], by simp [restrict_env, h_4, h_8, q_14, q_15, q_16, q_17, h_19], by simp [restrict_env, h_4, h_8, q_14, q_15, q_16, q_17, h_19], by simp [restrict_env, h_4, h_8, q_14, q_15, q_16, q_17, h_19], by simp [restrict_env, h_4, h_8, q_14, q_15, q_16, q_17, h_19], by simp [restrict_env, h_4, h_8, q_14, q_15, q_16, q_17, h_19], by simp [restrict_env, h_4, h_8, q_14, q_15, q_16, q_17, h_19], NoBox.restrict (by intro k hk hb; simp at hk hb; simp [hk, hb, h_4, h_8, q_14, q_15, q_16, q_17, h_19, hn_18 k (by simp [hk, hb])])⟩
          · intro s_26 σ_30 a_27 hI hp
            rw [I_28_] at hI
            obtain ⟨q_31, q_32, q_33, q_34, q_35, q_36, q_37, hn_38⟩ := hI
            try simp [h_4, h_8, h_19, q_31, q_32, q_33, q_34, q_35, q_36, q_37]
            rcases cond_cases hp with ⟨h_39, hp⟩ | ⟨h_39, hp⟩
            · try simp at h_39
              try simp [h_4, h_8, h_19, q_31, q_32, q_33, q_34, q_35, q_36, q_37, h_39]
              obtain ⟨r_75, h_76, hp⟩ := bind_some hp
              obtain ⟨I_42, I_42_⟩ : ∃ I : (List THeap) × Int → St → Prop, I = (fun (s_40 : (List THeap) × Int) (σ : St) => σ.env 0 = .one (.s (.int .i64 vars)) ∧ σ.env 1 = .one (.s (.int .i64 cells)) ∧ σ.env 5 = .one (.l .own s_40.1.length (encL s_40.1)) ∧ σ.env 6 = .one (.s (.int .i64 s_9.2)) ∧ σ.env 7 = .one (.l .own y_20.length (encL y_20)) ∧ σ.env 8 = .one (.l .own y_23.length (encL y_23)) ∧ σ.env 9 = .one (.s (.int .i64 s_26.2)) ∧ σ.env 10 = .one (.s (.int .i64 s_40.2)) ∧ NoBox [] σ.mem) := ⟨_, rfl⟩
              obtain ⟨X_43, X_43_⟩ : ∃ X : (List THeap) → Out → Prop, X = (fun (r_75 : (List THeap)) (out : Out) => ∃ σ : St, out = .exit 4 σ ∧ σ.env 0 = .one (.s (.int .i64 vars)) ∧ σ.env 1 = .one (.s (.int .i64 cells)) ∧ σ.env 5 = .one (.l .own r_75.length (encL r_75)) ∧ σ.env 6 = .one (.s (.int .i64 s_9.2)) ∧ σ.env 7 = .one (.l .own y_20.length (encL y_20)) ∧ σ.env 8 = .one (.l .own y_23.length (encL y_23)) ∧ σ.env 9 = .one (.s (.int .i64 s_26.2)) ∧ NoBox [] σ.mem) := ⟨_, rfl⟩
              refine loopP ({ hd := [0, 1, 5, 6, 7, 8, 9, 10], bx := [11], ex := [0, 1, 5, 6, 7, 8, 9], rt := [4] }) I_42 X_43 h_76 (by exact rfl) ?_ ?_ ?_
              · rw [I_42_]
                exact ⟨by simp [restrict_env, h_4, h_8, h_19, q_31, q_32, q_33, q_34, q_35, q_36, q_37, h_39], by simp [restrict_env, h_4, h_8, h_19, q_31, q_32, q_33, q_34, q_35, q_36, q_37, h_39], by simp [restrict_env, h_4, h_8, h_19, q_31, q_32, q_33, q_34, q_35, q_36, q_37, h_39], by simp [restrict_env, h_4, h_8, h_19, q_31, q_32, q_33, q_34, q_35, q_36, q_37, h_39], by simp [restrict_env, h_4, h_8, h_19, q_31, q_32, q_33, q_34, q_35, q_36, q_37, h_39], by simp [restrict_env, h_4, h_8, h_19, q_31, q_32, q_33, q_34, q_35, q_36, q_37, h_39], by simp [restrict_env, h_4, h_8, h_19, q_31, q_32, q_33, q_34, q_35, q_36, q_37, h_39], by simp [restrict_env, h_4, h_8, h_19, q_31, q_32, q_33, q_34, q_35, q_36, q_37, h_39], NoBox.restrict (by intro k hk hb; simp at hk hb; simp [hk, hb, h_4, h_8, h_19, q_31, q_32, q_33, q_34, q_35, q_36, q_37, h_39, hn_38 k (by simp [hk, hb])])⟩
              · intro s_40 σ_44 a_41 hI hp
                rw [I_42_] at hI
                obtain ⟨q_45, q_46, q_47, q_48, q_49, q_50, q_51, q_52, hn_53⟩ := hI
                try simp [h_4, h_8, h_19, h_39, q_45, q_46, q_47, q_48, q_49, q_50, q_51, q_52]
                rcases cond_cases hp with ⟨h_54, hp⟩ | ⟨h_54, hp⟩
                · try simp at h_54
                  obtain ⟨e_55, h_56, hp⟩ := bind_some hp
                  have b_57 := at_lo h_56
                  have b_58 := at_hi h_56
                  try simp at b_57
                  try simp at b_58
                  have c_59 := seg_at' h_56 0 1 (by decide) (ds := [.sl e_55.length (encL e_55)]) rfl
                  try simp at c_59
                  obtain ⟨e_60, h_61, hp⟩ := bind_some hp
                  have b_62 := at_lo h_61
                  have b_63 := at_hi h_61
                  try simp at b_62
                  try simp at b_63
                  have c_64 := seg_at' h_61 0 1 (by decide) (ds := [.sl e_60.length (encL e_60)]) rfl
                  try simp at c_64
                  have n_65 := hn_53 (1, 11) (by simp)
                  obtain ⟨y_66, h_67, hp⟩ := bind_some hp
                  have c_68 := C47_eq h_67
                  simp at c_68
                  try simp [h_4, h_8, h_19, h_39, q_45, q_46, q_47, q_48, q_49, q_50, q_51, q_52, h_54, b_57, b_58, c_59, b_62, b_63, c_64, n_65, c_68]
                  rcases cond_cases hp with ⟨h_69, hp⟩ | ⟨h_69, hp⟩
                  · try simp at h_69
                    obtain ⟨y_70, h_71, hp⟩ := bind_some hp
                    have c_72 := C48_eq h_71
                    simp at c_72
                    obtain ⟨_, h_73, hp⟩ := bind_some hp
                    have b_74 := room_ok h_73
                    try simp at b_74
                    cases hp
                    try simp [h_4, h_8, h_19, h_39, q_45, q_46, q_47, q_48, q_49, q_50, q_51, q_52, h_54, h_69, c_72, b_74]
                    refine goal_next ?_
                    rw [I_42_]
                    exact ⟨by simp [restrict_env, h_4, h_8, h_19, h_39, q_45, q_46, q_47, q_48, q_49, q_50, q_51, q_52, h_54, h_69, c_72, b_74], by simp [restrict_env, h_4, h_8, h_19, h_39, q_45, q_46, q_47, q_48, q_49, q_50, q_51, q_52, h_54, h_69, c_72, b_74], by simp [restrict_env, h_4, h_8, h_19, h_39, q_45, q_46, q_47, q_48, q_49, q_50, q_51, q_52, h_54, h_69, c_72, b_74], by simp [restrict_env, h_4, h_8, h_19, h_39, q_45, q_46, q_47, q_48, q_49, q_50, q_51, q_52, h_54, h_69, c_72, b_74], by simp [restrict_env, h_4, h_8, h_19, h_39, q_45, q_46, q_47, q_48, q_49, q_50, q_51, q_52, h_54, h_69, c_72, b_74], by simp [restrict_env, h_4, h_8, h_19, h_39, q_45, q_46, q_47, q_48, q_49, q_50, q_51, q_52, h_54, h_69, c_72, b_74], by simp [restrict_env, h_4, h_8, h_19, h_39, q_45, q_46, q_47, q_48, q_49, q_50, q_51, q_52, h_54, h_69, c_72, b_74], by simp [restrict_env, h_4, h_8, h_19, h_39, q_45, q_46, q_47, q_48, q_49, q_50, q_51, q_52, h_54, h_69, c_72, b_74], NoBox.restrict (by intro k hk hb; simp at hk hb; simp [hk, hb, h_4, h_8, h_19, h_39, q_45, q_46, q_47, q_48, q_49, q_50, q_51, q_52, h_54, h_69, c_72, b_74, hn_53 k (by simp [hk, hb])])⟩
                  · try simp at h_69
                    cases hp
                    try simp [h_4, h_8, h_19, h_39, q_45, q_46, q_47, q_48, q_49, q_50, q_51, q_52, h_54, h_69]
                    refine goal_next ?_
                    rw [I_42_]
                    exact ⟨by simp [restrict_env, h_4, h_8, h_19, h_39, q_45, q_46, q_47, q_48, q_49, q_50, q_51, q_52, h_54, h_69], by simp [restrict_env, h_4, h_8, h_19, h_39, q_45, q_46, q_47, q_48, q_49, q_50, q_51, q_52, h_54, h_69], by simp [restrict_env, h_4, h_8, h_19, h_39, q_45, q_46, q_47, q_48, q_49, q_50, q_51, q_52, h_54, h_69], by simp [restrict_env, h_4, h_8, h_19, h_39, q_45, q_46, q_47, q_48, q_49, q_50, q_51, q_52, h_54, h_69], by simp [restrict_env, h_4, h_8, h_19, h_39, q_45, q_46, q_47, q_48, q_49, q_50, q_51, q_52, h_54, h_69], by simp [restrict_env, h_4, h_8, h_19, h_39, q_45, q_46, q_47, q_48, q_49, q_50, q_51, q_52, h_54, h_69], by simp [restrict_env, h_4, h_8, h_19, h_39, q_45, q_46, q_47, q_48, q_49, q_50, q_51, q_52, h_54, h_69], by simp [restrict_env, h_4, h_8, h_19, h_39, q_45, q_46, q_47, q_48, q_49, q_50, q_51, q_52, h_54, h_69], NoBox.restrict (by intro k hk hb; simp at hk hb; simp [hk, hb, h_4, h_8, h_19, h_39, q_45, q_46, q_47, q_48, q_49, q_50, q_51, q_52, h_54, h_69, hn_53 k (by simp [hk, hb])])⟩
                · try simp at h_54
                  cases hp
                  try simp [h_4, h_8, h_19, h_39, q_45, q_46, q_47, q_48, q_49, q_50, q_51, q_52, h_54]
                  refine goal_outX ?_
                  rw [X_43_]
                  exact ⟨_, rfl, by simp [restrict_env, h_4, h_8, h_19, h_39, q_45, q_46, q_47, q_48, q_49, q_50, q_51, q_52, h_54], by simp [restrict_env, h_4, h_8, h_19, h_39, q_45, q_46, q_47, q_48, q_49, q_50, q_51, q_52, h_54], by simp [restrict_env, h_4, h_8, h_19, h_39, q_45, q_46, q_47, q_48, q_49, q_50, q_51, q_52, h_54], by simp [restrict_env, h_4, h_8, h_19, h_39, q_45, q_46, q_47, q_48, q_49, q_50, q_51, q_52, h_54], by simp [restrict_env, h_4, h_8, h_19, h_39, q_45, q_46, q_47, q_48, q_49, q_50, q_51, q_52, h_54], by simp [restrict_env, h_4, h_8, h_19, h_39, q_45, q_46, q_47, q_48, q_49, q_50, q_51, q_52, h_54], by simp [restrict_env, h_4, h_8, h_19, h_39, q_45, q_46, q_47, q_48, q_49, q_50, q_51, q_52, h_54], NoBox.restrict (by intro k hk hb; simp at hk hb; simp [hk, hb, h_4, h_8, h_19, h_39, q_45, q_46, q_47, q_48, q_49, q_50, q_51, q_52, h_54, hn_53 k (by simp [hk, hb])])⟩
              · intro out hX
                rw [X_43_] at hX
                obtain ⟨σ_77, rfl, q_78, q_79, q_80, q_81, q_82, q_83, q_84, hn_85⟩ := hX
                cases hp
                try simp [h_4, h_8, h_19, h_39, q_78, q_79, q_80, q_81, q_82, q_83, q_84]
                refine goal_next ?_
                rw [I_28_]
                exact ⟨by simp [restrict_env, h_4, h_8, h_19, h_39, q_78, q_79, q_80, q_81, q_82, q_83, q_84], by simp [restrict_env, h_4, h_8, h_19, h_39, q_78, q_79, q_80, q_81, q_82, q_83, q_84], by simp [restrict_env, h_4, h_8, h_19, h_39, q_78, q_79, q_80, q_81, q_82, q_83, q_84], by simp [restrict_env, h_4, h_8, h_19, h_39, q_78, q_79, q_80, q_81, q_82, q_83, q_84], by simp [restrict_env, h_4, h_8, h_19, h_39, q_78, q_79, q_80, q_81, q_82, q_83, q_84], by simp [restrict_env, h_4, h_8, h_19, h_39, q_78, q_79, q_80, q_81, q_82, q_83, q_84], by simp [restrict_env, h_4, h_8, h_19, h_39, q_78, q_79, q_80, q_81, q_82, q_83, q_84], NoBox.restrict (by intro k hk hb; simp at hk hb; simp [hk, hb, h_4, h_8, h_19, h_39, q_78, q_79, q_80, q_81, q_82, q_83, q_84, hn_85 k (by simp [hk, hb])])⟩
            · try simp at h_39
              cases hp
              try simp [h_4, h_8, h_19, q_31, q_32, q_33, q_34, q_35, q_36, q_37, h_39]
              refine goal_outX ?_
              rw [X_29_]
              exact ⟨_, rfl, by simp [restrict_env, h_4, h_8, h_19, q_31, q_32, q_33, q_34, q_35, q_36, q_37, h_39], by simp [restrict_env, h_4, h_8, h_19, q_31, q_32, q_33, q_34, q_35, q_36, q_37, h_39], by simp [restrict_env, h_4, h_8, h_19, q_31, q_32, q_33, q_34, q_35, q_36, q_37, h_39], by simp [restrict_env, h_4, h_8, h_19, q_31, q_32, q_33, q_34, q_35, q_36, q_37, h_39], NoBox.restrict (by intro k hk hb; simp at hk hb; simp [hk, hb, h_4, h_8, h_19, q_31, q_32, q_33, q_34, q_35, q_36, q_37, h_39, hn_38 k (by simp [hk, hb])])⟩
          · intro out hX
            rw [X_29_] at hX
            obtain ⟨σ_88, rfl, q_89, q_90, q_91, q_92, hn_93⟩ := hX
            cases hp
            try simp [h_4, h_8, h_19, q_89, q_90, q_91, q_92]
            refine goal_next ?_
            rw [I_11_]
            exact ⟨by simp [restrict_env, h_4, h_8, h_19, q_89, q_90, q_91, q_92], by simp [restrict_env, h_4, h_8, h_19, q_89, q_90, q_91, q_92], by simp [restrict_env, h_4, h_8, h_19, q_89, q_90, q_91, q_92], by simp [restrict_env, h_4, h_8, h_19, q_89, q_90, q_91, q_92], NoBox.restrict (by intro k hk hb; simp at hk hb; simp [hk, hb, h_4, h_8, h_19, q_89, q_90, q_91, q_92, hn_93 k (by simp [hk, hb])])⟩
        · try simp at h_19
          cases hp
          try simp [h_4, h_8, q_14, q_15, q_16, q_17, h_19]
          refine goal_outX ?_
          rw [X_12_]
          exact ⟨_, rfl, by simp [restrict_env, h_4, h_8, q_14, q_15, q_16, q_17, h_19], NoBox.restrict (by intro k hk hb; simp at hk hb; simp [hk, hb, h_4, h_8, q_14, q_15, q_16, q_17, h_19, hn_18 k (by simp [hk, hb])])⟩
      · intro out hX
        rw [X_12_] at hX
        obtain ⟨σ_96, rfl, q_97, hn_98⟩ := hX
        cases hp
        simp [Goal, FnEnd, h_4, h_8, q_97]
    · try simp at h_8
      cases hp
      simp [Goal, FnEnd, h_4, h_8]
  · try simp at h_4
    cases hp
    simp [Goal, FnEnd, h_4]
theorem pc9 : PC Try.prog 9 C9 := pc_of (g := g9) (ctxOK_of [(45, C45), (46, C46), (47, C47), (48, C48)] rfl ⟨pc45, pc46, pc47, pc48, trivial⟩) ⟨Try.f9, Try.func9, by kernel_rfl, by kernel_rfl⟩ fun x y h => w9 h

noncomputable def C124 : List AV → Option AV := specP (X := Bool × Unit) fun x => spec_l3Of x.1
theorem C124_eq {on} {y} (h : spec_l3Of on = some y) : C124 [av .shr on] = some (Res.res y) := specP_eq (X := Bool × Unit) (F := fun x => spec_l3Of x.1) (x := (on, ())) h
noncomputable def g124 : Cfg := { P := Try.prog, take := [], keep := [], gho := [], ctx := [] }
@[simp] theorem g124_P : g124.P = Try.prog := rfl
@[simp] theorem g124_t : g124.take = [] := rfl
@[simp] theorem g124_g : g124.gho = [] := rfl
set_option maxHeartbeats 4000000 in
set_option maxRecDepth 100000 in
theorem w124 {on} {y} (hp : spec_l3Of on = some y) : ∃ m, callo g124 0 124 [av .shr on] mem0 = some (Res.res y, m) := by
  refine start_fn (Try.f124.body.getD .skip) [.tmp 2] rfl rfl Try.func124 (by kernel_rfl) (by kernel_rfl) (by simp [Try.ntmps124]) rfl ?_
  unfold spec_l3Of at hp
  simp [Try.f124]
  rcases cond_cases hp with ⟨h_1, hp⟩ | ⟨h_1, hp⟩
  · try simp at h_1
    cases hp
    simp [Goal, FnEnd, h_1]
  · try simp at h_1
    cases hp
    simp [Goal, FnEnd, h_1]
theorem pc124 : PC Try.prog 124 C124 := pc_of (g := g124) (fun f F h => by cases h) ⟨Try.f124, Try.func124, by kernel_rfl, by kernel_rfl⟩ fun x y h => w124 h

noncomputable def C102 : List AV → Option AV := specP (X := THeap × Unit) fun x => spec_StructureOf x.1
theorem C102_eq {h_} {y} (h : spec_StructureOf h_ = some y) : C102 [av .shr h_] = some (Res.res y) := specP_eq (X := THeap × Unit) (F := fun x => spec_StructureOf x.1) (x := (h_, ())) h
noncomputable def g102 : Cfg := { P := Try.prog, take := [(102, 49), (102, 62), (102, 77), (102, 78), (102, 88), (102, 100)], keep := [((102, 6), { hd := [1, 2, 3, 4, 5], bx := [6], ex := [2, 4], rt := [2] }), ((102, 10), { hd := [1, 2, 3, 4, 5, 6, 7], bx := [], ex := [1, 2, 3, 4, 5, 6], rt := [2] }), ((102, 16), { hd := [1, 2, 3, 4, 5, 8], bx := [], ex := [1, 2, 3, 4, 5], rt := [2] })], gho := [], ctx := [(45, C45), (103, C103), (124, C124), (148, C148), (149, C149), (150, C150)] }
@[simp] theorem g102_P : g102.P = Try.prog := rfl
@[simp] theorem g102_t : g102.take = [(102, 49), (102, 62), (102, 77), (102, 78), (102, 88), (102, 100)] := rfl
@[simp] theorem g102_g : g102.gho = [] := rfl
@[simp] theorem g102_45 : lookN 45 g102.ctx = some C45 := rfl
@[simp] theorem g102_103 : lookN 103 g102.ctx = some C103 := rfl
@[simp] theorem g102_124 : lookN 124 g102.ctx = some C124 := rfl
@[simp] theorem g102_148 : lookN 148 g102.ctx = some C148 := rfl
@[simp] theorem g102_149 : lookN 149 g102.ctx = some C149 := rfl
@[simp] theorem g102_150 : lookN 150 g102.ctx = some C150 := rfl
set_option maxHeartbeats 4000000 in
set_option maxRecDepth 100000 in
theorem w102 {h_} {y} (hp : spec_StructureOf h_ = some y) : ∃ m, callo g102 0 102 [av .shr h_] mem0 = some (Res.res y, m) := by
  refine start_fn (Try.f102.body.getD .skip) [.cell 2 52] rfl rfl Try.func102 (by kernel_rfl) (by kernel_rfl) (by simp [Try.ntmps102]) rfl ?_
  unfold spec_StructureOf at hp
  obtain ⟨y_1, h_2, hp⟩ := bind_some hp
  have c_3 := C103_eq h_2
  simp at c_3
  simp [Try.f102, c_3]
  rcases cond_cases hp with ⟨h_4, hp⟩ | ⟨h_4, hp⟩
  · try simp at h_4
    try simp [h_4]
    rcases cond_cases hp with ⟨h_5, hp⟩ | ⟨h_5, hp⟩
    · try simp at h_5
      cases hp
      simp [Goal, FnEnd, retR, rsrc, RSrc.val, nodupR, nodup, tupPart, h_4, h_5]
    · try simp at h_5
      obtain ⟨y_6, h_7, hp⟩ := bind_some hp
      have c_8 := C45_eq h_7
      simp at c_8
      try simp [h_4, h_5, c_8]
      rcases cond_cases hp with ⟨h_9, hp⟩ | ⟨h_9, hp⟩
      · try simp at h_9
        try simp [h_4, h_5, h_9]
        obtain ⟨r_132, h_133, hp⟩ := bind_some hp
        obtain ⟨I_12, I_12_⟩ : ∃ I : Int × (List TNode) × (List Int) → St → Prop, I = (fun (s_10 : Int × (List TNode) × (List Int)) (σ : St) => σ.env 1 = .one (.ptr (1, 1) 0) ∧ σ.env 2 = .one (.ptr (1, 2) 0) ∧ σ.env 3 = .one (.s (.int .i64 (h_.next.length : Int))) ∧ σ.env 4 = .one (.ptr (1, 4) 0) ∧ σ.env 5 = .one (.s (.int .i64 s_10.1)) ∧ σ.mem (1, 1) = some [(.l .shr h_.vars.length (encL h_.vars)), (.l .shr h_.next.length (encL h_.next))] ∧ σ.mem (1, 2) = some [(.l .own 0 []), (.l .own 0 [])] ∧ σ.mem (1, 4) = some [(.l .own s_10.2.1.length (encL s_10.2.1)), (.l .own s_10.2.2.length (encL s_10.2.2))] ∧ NoBox [(1, 1), (1, 2), (1, 4)] σ.mem) := ⟨_, rfl⟩
        obtain ⟨X_13, X_13_⟩ : ∃ X : ((List TNode) × (List Int)) → Out → Prop, X = (fun (r_132 : (List TNode) × (List Int)) (out : Out) => ∃ σ : St, out = .exit 0 σ ∧ σ.env 2 = .one (.ptr (1, 2) 0) ∧ σ.env 4 = .one (.ptr (1, 4) 0) ∧ σ.mem (1, 1) = some [(.l .shr h_.vars.length (encL h_.vars)), (.l .shr h_.next.length (encL h_.next))] ∧ σ.mem (1, 2) = some [(.l .own 0 []), (.l .own 0 [])] ∧ σ.mem (1, 4) = some [(.l .own r_132.1.length (encL r_132.1)), (.l .own r_132.2.length (encL r_132.2))] ∧ NoBox [(1, 1), (1, 2), (1, 4)] σ.mem) := ⟨_, rfl⟩
        refine loopP ({ hd := [1, 2, 3, 4, 5], bx := [6], ex := [2, 4], rt := [2] }) I_12 X_13 h_133 (by exact rfl) ?_ ?_ ?_
        · rw [I_12_]
          exact ⟨by simp [restrict_env, h_4, h_5, h_9], by simp [restrict_env, h_4, h_5, h_9], by simp [restrict_env, h_4, h_5, h_9], by simp [restrict_env, h_4, h_5, h_9], by simp [restrict_env, h_4, h_5, h_9], by simp [restrict_mem, h_4, h_5, h_9], by simp [restrict_mem, h_4, h_5, h_9], by simp [restrict_mem, h_4, h_5, h_9], NoBox.restrict (by intro k hk hb; simp at hk hb; simp [hk, hb, h_4, h_5, h_9])⟩
        · intro s_10 σ_14 a_11 hI hp
          rw [I_12_] at hI
          obtain ⟨q_15, q_16, q_17, q_18, q_19, q_20, q_21, q_22, hn_23⟩ := hI
          try simp [h_4, h_5, h_9, q_15, q_16, q_17, q_18, q_19, q_20, q_21, q_22]
          rcases cond_cases hp with ⟨h_24, hp⟩ | ⟨h_24, hp⟩
          · try simp at h_24
            obtain ⟨y_25, h_26, hp⟩ := bind_some hp
            have c_27 := C148_eq h_26
            simp at c_27
            obtain ⟨y_28, h_29, hp⟩ := bind_some hp
            have c_30 := C124_eq h_29
            simp at c_30
            have n_31 := hn_23 (1, 6) (by simp)
            try simp [h_4, h_5, h_9, q_15, q_16, q_17, q_18, q_19, q_20, q_21, q_22, h_24, c_27, c_30, n_31]
            obtain ⟨r_76, h_77, hp⟩ := bind_some hp
            obtain ⟨I_34, I_34_⟩ : ∃ I : Int × (List Int) × (List Int) → St → Prop, I = (fun (s_32 : Int × (List Int) × (List Int)) (σ : St) => σ.env 1 = .one (.ptr (1, 1) 0) ∧ σ.env 2 = .one (.ptr (1, 2) 0) ∧ σ.env 3 = .one (.s (.int .i64 (h_.next.length : Int))) ∧ σ.env 4 = .one (.ptr (1, 4) 0) ∧ σ.env 5 = .one (.s (.int .i64 s_10.1)) ∧ σ.env 6 = .one (.ptr (1, 6) 0) ∧ σ.env 7 = .one (.s (.int .i64 s_32.1)) ∧ σ.mem (1, 1) = some [(.l .shr h_.vars.length (encL h_.vars)), (.l .shr h_.next.length (encL h_.next))] ∧ σ.mem (1, 2) = some [(.l .own 0 []), (.l .own 0 [])] ∧ σ.mem (1, 4) = some [(.l .own s_10.2.1.length (encL s_10.2.1)), (.l .own s_10.2.2.length (encL s_10.2.2))] ∧ σ.mem (1, 6) = some [(.l .own s_32.2.1.length (encL s_32.2.1)), (.l .own s_32.2.2.length (encL s_32.2.2)), (.s (.int .i64 y_28)), (.s (.int .i64 0))] ∧ NoBox [(1, 1), (1, 2), (1, 4), (1, 6)] σ.mem) := ⟨_, rfl⟩
            obtain ⟨X_35, X_35_⟩ : ∃ X : ((List Int) × (List Int)) → Out → Prop, X = (fun (r_76 : (List Int) × (List Int)) (out : Out) => ∃ σ : St, out = .exit 2 σ ∧ σ.env 1 = .one (.ptr (1, 1) 0) ∧ σ.env 2 = .one (.ptr (1, 2) 0) ∧ σ.env 3 = .one (.s (.int .i64 (h_.next.length : Int))) ∧ σ.env 4 = .one (.ptr (1, 4) 0) ∧ σ.env 5 = .one (.s (.int .i64 s_10.1)) ∧ σ.env 6 = .one (.ptr (1, 6) 0) ∧ σ.mem (1, 1) = some [(.l .shr h_.vars.length (encL h_.vars)), (.l .shr h_.next.length (encL h_.next))] ∧ σ.mem (1, 2) = some [(.l .own 0 []), (.l .own 0 [])] ∧ σ.mem (1, 4) = some [(.l .own s_10.2.1.length (encL s_10.2.1)), (.l .own s_10.2.2.length (encL s_10.2.2))] ∧ σ.mem (1, 6) = some [(.l .own r_76.1.length (encL r_76.1)), (.l .own r_76.2.length (encL r_76.2)), (.s (.int .i64 y_28)), (.s (.int .i64 0))] ∧ NoBox [(1, 1), (1, 2), (1, 4), (1, 6)] σ.mem) := ⟨_, rfl⟩
            refine loopP ({ hd := [1, 2, 3, 4, 5, 6, 7], bx := [], ex := [1, 2, 3, 4, 5, 6], rt := [2] }) I_34 X_35 h_77 (by exact rfl) ?_ ?_ ?_
            · rw [I_34_]
              exact ⟨by simp [restrict_env, h_4, h_5, h_9, q_15, q_16, q_17, q_18, q_19, q_20, q_21, q_22, h_24], by simp [restrict_env, h_4, h_5, h_9, q_15, q_16, q_17, q_18, q_19, q_20, q_21, q_22, h_24], by simp [restrict_env, h_4, h_5, h_9, q_15, q_16, q_17, q_18, q_19, q_20, q_21, q_22, h_24], by simp [restrict_env, h_4, h_5, h_9, q_15, q_16, q_17, q_18, q_19, q_20, q_21, q_22, h_24], by simp [restrict_env, h_4, h_5, h_9, q_15, q_16, q_17, q_18, q_19, q_20, q_21, q_22, h_24], by simp [restrict_env, h_4, h_5, h_9, q_15, q_16, q_17, q_18, q_19, q_20, q_21, q_22, h_24], by simp [restrict_env, h_4, h_5, h_9, q_15, q_16, q_17, q_18, q_19, q_20, q_21, q_22, h_24], by simp [restrict_mem, h_4, h_5, h_9, q_15, q_16, q_17, q_18, q_19, q_20, q_21, q_22, h_24], by simp [restrict_mem, h_4, h_5, h_9, q_15, q_16, q_17, q_18, q_19, q_20, q_21, q_22, h_24], by simp [restrict_mem, h_4, h_5, h_9, q_15, q_16, q_17, q_18, q_19, q_20, q_21, q_22, h_24], by simp [restrict_mem, h_4, h_5, h_9, q_15, q_16, q_17, q_18, q_19, q_20, q_21, q_22, h_24], NoBox.restrict (by intro k hk hb; simp at hk hb; simp [hk, hb, h_4, h_5, h_9, q_15, q_16, q_17, q_18, q_19, q_20, q_21, q_22, h_24, hn_23 k (by simp [hk, hb])])⟩
            · intro s_32 σ_36 a_33 hI hp
              rw [I_34_] at hI
              obtain ⟨q_37, q_38, q_39, q_40, q_41, q_42, q_43, q_44, q_45, q_46, q_47, hn_48⟩ := hI
              try simp [h_4, h_5, h_9, h_24, q_37, q_38, q_39, q_40, q_41, q_42, q_43, q_44, q_45, q_46, q_47]
              rcases cond_cases hp with ⟨h_49, hp⟩ | ⟨h_49, hp⟩
              · try simp at h_49
                obtain ⟨e_50, h_51, hp⟩ := bind_some hp
                have b_52 := at_lo h_51
                have b_53 := at_hi h_51
                try simp at b_52
                try simp at b_53
                have c_54 := seg_at' h_51 0 1 (by decide) (ds := [.sc (.int .i64 e_50)]) rfl
                try simp at c_54
                obtain ⟨y_55, h_56, hp⟩ := bind_some hp
                have c_57 := C124_eq h_56
                simp at c_57
                obtain ⟨_, h_58, hp⟩ := bind_some hp
                have b_59 := room_ok h_58
                try simp at b_59
                obtain ⟨e_60, h_61, hp⟩ := bind_some hp
                cases Option.some.inj (h_51.symm.trans h_61)
                have b_62 := at_lo h_51
                have b_63 := at_hi h_51
                try simp at b_62
                try simp at b_63
                have c_64 := seg_at' h_51 0 1 (by decide) (ds := [.sc (.int .i64 e_50)]) rfl
                try simp at c_64
                obtain ⟨y_65, h_66, hp⟩ := bind_some hp
                have c_67 := C150_eq h_66
                simp at c_67
                obtain ⟨y_68, h_69, hp⟩ := bind_some hp
                have c_70 := C149_eq h_69
                simp at c_70
                obtain ⟨y_71, h_72, hp⟩ := bind_some hp
                have c_73 := C124_eq h_72
                simp at c_73
                obtain ⟨_, h_74, hp⟩ := bind_some hp
                have b_75 := room_ok h_74
                try simp at b_75
                cases hp
                try simp [h_4, h_5, h_9, h_24, q_37, q_38, q_39, q_40, q_41, q_42, q_43, q_44, q_45, q_46, q_47, h_49, b_52, b_53, c_54, c_57, b_59, b_62, b_63, c_64, c_67, c_70, c_73, b_75]
                refine goal_next ?_
                rw [I_34_]
                exact ⟨by simp [restrict_env, h_4, h_5, h_9, h_24, q_37, q_38, q_39, q_40, q_41, q_42, q_43, q_44, q_45, q_46, q_47, h_49, b_52, b_53, c_54, c_57, b_59, b_62, b_63, c_64, c_67, c_70, c_73, b_75], by simp [restrict_env, h_4, h_5, h_9, h_24, q_37, q_38, q_39, q_40, q_41, q_42, q_43, q_44, q_45, q_46, q_47, h_49, b_52, b_53, c_54, c_57, b_59, b_62, b_63, c_64, c_67, c_70, c_73, b_75], by simp [restrict_env, h_4, h_5, h_9, h_24, q_37, q_38, q_39, q_40, q_41, q_42, q_43, q_44, q_45, q_46, q_47, h_49, b_52, b_53, c_54, c_57, b_59, b_62, b_63, c_64, c_67, c_70, c_73, b_75], by simp [restrict_env, h_4, h_5, h_9, h_24, q_37, q_38, q_39, q_40, q_41, q_42, q_43, q_44, q_45, q_46, q_47, h_49, b_52, b_53, c_54, c_57, b_59, b_62, b_63, c_64, c_67, c_70, c_73, b_75], by simp [restrict_env, h_4, h_5, h_9, h_24, q_37, q_38, q_39, q_40, q_41, q_42, q_43, q_44, q_45, q_46, q_47, h_49, b_52, b_53, c_54, c_57, b_59, b_62, b_63, c_64, c_67, c_70, c_73, b_75], by simp [restrict_env, h_4, h_5, h_9, h_24, q_37, q_38, q_39, q_40, q_41, q_42, q_43, q_44, q_45, q_46, q_47, h_49, b_52, b_53, c_54, c_57, b_59, b_62, b_63, c_64, c_67, c_70, c_73, b_75], by simp [restrict_env, h_4, h_5, h_9, h_24, q_37, q_38, q_39, q_40, q_41, q_42, q_43, q_44, q_45, q_46, q_47, h_49, b_52, b_53, c_54, c_57, b_59, b_62, b_63, c_64, c_67, c_70, c_73, b_75], by simp [restrict_mem, h_4, h_5, h_9, h_24, q_37, q_38, q_39, q_40, q_41, q_42, q_43, q_44, q_45, q_46, q_47, h_49, b_52, b_53, c_54, c_57, b_59, b_62, b_63, c_64, c_67, c_70, c_73, b_75], by simp [restrict_mem, h_4, h_5, h_9, h_24, q_37, q_38, q_39, q_40, q_41, q_42, q_43, q_44, q_45, q_46, q_47, h_49, b_52, b_53, c_54, c_57, b_59, b_62, b_63, c_64, c_67, c_70, c_73, b_75], by simp [restrict_mem, h_4, h_5, h_9, h_24, q_37, q_38, q_39, q_40, q_41, q_42, q_43, q_44, q_45, q_46, q_47, h_49, b_52, b_53, c_54, c_57, b_59, b_62, b_63, c_64, c_67, c_70, c_73, b_75], by simp [restrict_mem, h_4, h_5, h_9, h_24, q_37, q_38, q_39, q_40, q_41, q_42, q_43, q_44, q_45, q_46, q_47, h_49, b_52, b_53, c_54, c_57, b_59, b_62, b_63, c_64, c_67, c_70, c_73, b_75], NoBox.restrict (by intro k hk hb; simp at hk hb; simp [hk, hb, h_4, h_5, h_9, h_24, q_37, q_38, q_39, q_40, q_41, q_42, q_43, q_44, q_45, q_46, q_47, h_49, b_52, b_53, c_54, c_57, b_59, b_62, b_63, c_64, c_67, c_70, c_73, b_75, hn_48 k (by simp [hk, hb])])⟩
              · try simp at h_49
                cases hp
                try simp [h_4, h_5, h_9, h_24, q_37, q_38, q_39, q_40, q_41, q_42, q_43, q_44, q_45, q_46, q_47, h_49]
                refine goal_outX ?_
                rw [X_35_]
                exact ⟨_, rfl, by simp [restrict_env, h_4, h_5, h_9, h_24, q_37, q_38, q_39, q_40, q_41, q_42, q_43, q_44, q_45, q_46, q_47, h_49], by simp [restrict_env, h_4, h_5, h_9, h_24, q_37, q_38, q_39, q_40, q_41, q_42, q_43, q_44, q_45, q_46, q_47, h_49], by simp [restrict_env, h_4, h_5, h_9, h_24, q_37, q_38, q_39, q_40, q_41, q_42, q_43, q_44, q_45, q_46, q_47, h_49], by simp [restrict_env, h_4, h_5, h_9, h_24, q_37, q_38, q_39, q_40, q_41, q_42, q_43, q_44, q_45, q_46, q_47, h_49], by simp [restrict_env, h_4, h_5, h_9, h_24, q_37, q_38, q_39, q_40, q_41, q_42, q_43, q_44, q_45, q_46, q_47, h_49], by simp [restrict_env, h_4, h_5, h_9, h_24, q_37, q_38, q_39, q_40, q_41, q_42, q_43, q_44, q_45, q_46, q_47, h_49], by simp [restrict_mem, h_4, h_5, h_9, h_24, q_37, q_38, q_39, q_40, q_41, q_42, q_43, q_44, q_45, q_46, q_47, h_49], by simp [restrict_mem, h_4, h_5, h_9, h_24, q_37, q_38, q_39, q_40, q_41, q_42, q_43, q_44, q_45, q_46, q_47, h_49], by simp [restrict_mem, h_4, h_5, h_9, h_24, q_37, q_38, q_39, q_40, q_41, q_42, q_43, q_44, q_45, q_46, q_47, h_49], by simp [restrict_mem, h_4, h_5, h_9, h_24, q_37, q_38, q_39, q_40, q_41, q_42, q_43, q_44, q_45, q_46, q_47, h_49], NoBox.restrict (by intro k hk hb; simp at hk hb; simp [hk, hb, h_4, h_5, h_9, h_24, q_37, q_38, q_39, q_40, q_41, q_42, q_43, q_44, q_45, q_46, q_47, h_49, hn_48 k (by simp [hk, hb])])⟩
            · intro out hX
              rw [X_35_] at hX
              obtain ⟨σ_78, rfl, q_79, q_80, q_81, q_82, q_83, q_84, q_85, q_86, q_87, q_88, hn_89⟩ := hX
              obtain ⟨_, h_90, hp⟩ := bind_some hp
              have b_91 := room_ok h_90
              try simp at b_91
              try simp [h_4, h_5, h_9, h_24, q_79, q_80, q_81, q_82, q_83, q_84, q_85, q_86, q_87, q_88, b_91]
              obtain ⟨r_119, h_120, hp⟩ := bind_some hp
              obtain ⟨I_94, I_94_⟩ : ∃ I : Int × (List Int) → St → Prop, I = (fun (s_92 : Int × (List Int)) (σ : St) => σ.env 1 = .one (.ptr (1, 1) 0) ∧ σ.env 2 = .one (.ptr (1, 2) 0) ∧ σ.env 3 = .one (.s (.int .i64 (h_.next.length : Int))) ∧ σ.env 4 = .one (.ptr (1, 4) 0) ∧ σ.env 5 = .one (.s (.int .i64 s_10.1)) ∧ σ.env 8 = .one (.s (.int .i64 s_92.1)) ∧ σ.mem (1, 1) = some [(.l .shr h_.vars.length (encL h_.vars)), (.l .shr h_.next.length (encL h_.next))] ∧ σ.mem (1, 2) = some [(.l .own 0 []), (.l .own 0 [])] ∧ σ.mem (1, 4) = some [(.l .own (s_10.2.1 ++ [(⟨r_76.1, r_76.2, y_28, 0⟩ : TNode)]).length (encL (s_10.2.1 ++ [(⟨r_76.1, r_76.2, y_28, 0⟩ : TNode)]))), (.l .own s_92.2.length (encL s_92.2))] ∧ σ.mem (1, 6) = some [.dead, .dead, .dead, .dead] ∧ NoBox [(1, 1), (1, 2), (1, 4), (1, 6)] σ.mem) := ⟨_, rfl⟩
              obtain ⟨X_95, X_95_⟩ : ∃ X : (List Int) → Out → Prop, X = (fun (r_119 : (List Int)) (out : Out) => ∃ σ : St, out = .exit 4 σ ∧ σ.env 1 = .one (.ptr (1, 1) 0) ∧ σ.env 2 = .one (.ptr (1, 2) 0) ∧ σ.env 3 = .one (.s (.int .i64 (h_.next.length : Int))) ∧ σ.env 4 = .one (.ptr (1, 4) 0) ∧ σ.env 5 = .one (.s (.int .i64 s_10.1)) ∧ σ.mem (1, 1) = some [(.l .shr h_.vars.length (encL h_.vars)), (.l .shr h_.next.length (encL h_.next))] ∧ σ.mem (1, 2) = some [(.l .own 0 []), (.l .own 0 [])] ∧ σ.mem (1, 4) = some [(.l .own (s_10.2.1 ++ [(⟨r_76.1, r_76.2, y_28, 0⟩ : TNode)]).length (encL (s_10.2.1 ++ [(⟨r_76.1, r_76.2, y_28, 0⟩ : TNode)]))), (.l .own r_119.length (encL r_119))] ∧ σ.mem (1, 6) = some [.dead, .dead, .dead, .dead] ∧ NoBox [(1, 1), (1, 2), (1, 4), (1, 6)] σ.mem) := ⟨_, rfl⟩
              refine loopP ({ hd := [1, 2, 3, 4, 5, 8], bx := [], ex := [1, 2, 3, 4, 5], rt := [2] }) I_94 X_95 h_120 (by exact rfl) ?_ ?_ ?_
              · rw [I_94_]
                exact ⟨by simp [restrict_env, h_4, h_5, h_9, h_24, q_79, q_80, q_81, q_82, q_83, q_84, q_85, q_86, q_87, q_88], by simp [restrict_env, h_4, h_5, h_9, h_24, q_79, q_80, q_81, q_82, q_83, q_84, q_85, q_86, q_87, q_88], by simp [restrict_env, h_4, h_5, h_9, h_24, q_79, q_80, q_81, q_82, q_83, q_84, q_85, q_86, q_87, q_88], by simp [restrict_env, h_4, h_5, h_9, h_24, q_79, q_80, q_81, q_82, q_83, q_84, q_85, q_86, q_87, q_88], by simp [restrict_env, h_4, h_5, h_9, h_24, q_79, q_80, q_81, q_82, q_83, q_84, q_85, q_86, q_87, q_88], by simp [restrict_env, h_4, h_5, h_9, h_24, q_79, q_80, q_81, q_82, q_83, q_84, q_85, q_86, q_87, q_88], by simp [restrict_mem, h_4, h_5, h_9, h_24, q_79, q_80, q_81, q_82, q_83, q_84, q_85, q_86, q_87, q_88], by simp [restrict_mem, h_4, h_5, h_9, h_24, q_79, q_80, q_81, q_82, q_83, q_84, q_85, q_86, q_87, q_88], by simp [restrict_mem, h_4, h_5, h_9, h_24, q_79, q_80, q_81, q_82, q_83, q_84, q_85, q_86, q_87, q_88], by simp [restrict_mem, h_4, h_5, h_9, h_24, q_79, q_80, q_81, q_82, q_83, q_84, q_85, q_86, q_87, q_88], NoBox.restrict (by intro k hk hb; simp at hk hb; simp [hk, hb, h_4, h_5, h_9, h_24, q_79, q_80, q_81, q_82, q_83, q_84, q_85, q_86, q_87, q_88, hn_89 k (by simp [hk, hb])])⟩
              · intro s_92 σ_96 a_93 hI hp
                rw [I_94_] at hI
                obtain ⟨q_97, q_98, q_99, q_100, q_101, q_102, q_103, q_104, q_105, q_106, hn_107⟩ := hI
                try simp [h_4, h_5, h_9, h_24, q_97, q_98, q_99, q_100, q_101, q_102, q_103, q_104, q_105, q_106]
                rcases cond_cases hp with ⟨h_108, hp⟩ | ⟨h_108, hp⟩
                · try simp at h_108
                  obtain ⟨e_109, h_110, hp⟩ := bind_some hp
                  have b_111 := at_lo h_110
                  have b_112 := at_hi h_110
                  try simp at b_111
                  try simp at b_112
                  have c_113 := seg_at' h_110 0 1 (by decide) (ds := [.sc (.int .i64 e_109)]) rfl
                  try simp at c_113
                  obtain ⟨y_114, h_115, hp⟩ := bind_some hp
                  have c_116 := C124_eq h_115
                  simp at c_116
                  obtain ⟨_, h_117, hp⟩ := bind_some hp
                  have b_118 := room_ok h_117
                  try simp at b_118
                  cases hp
                  try simp [h_4, h_5, h_9, h_24, q_97, q_98, q_99, q_100, q_101, q_102, q_103, q_104, q_105, q_106, h_108, b_111, b_112, c_113, c_116, b_118]
                  refine goal_next ?_
                  rw [I_94_]
                  exact ⟨by simp [restrict_env, h_4, h_5, h_9, h_24, q_97, q_98, q_99, q_100, q_101, q_102, q_103, q_104, q_105, q_106, h_108, b_111, b_112, c_113, c_116, b_118], by simp [restrict_env, h_4, h_5, h_9, h_24, q_97, q_98, q_99, q_100, q_101, q_102, q_103, q_104, q_105, q_106, h_108, b_111, b_112, c_113, c_116, b_118], by simp [restrict_env, h_4, h_5, h_9, h_24, q_97, q_98, q_99, q_100, q_101, q_102, q_103, q_104, q_105, q_106, h_108, b_111, b_112, c_113, c_116, b_118], by simp [restrict_env, h_4, h_5, h_9, h_24, q_97, q_98, q_99, q_100, q_101, q_102, q_103, q_104, q_105, q_106, h_108, b_111, b_112, c_113, c_116, b_118], by simp [restrict_env, h_4, h_5, h_9, h_24, q_97, q_98, q_99, q_100, q_101, q_102, q_103, q_104, q_105, q_106, h_108, b_111, b_112, c_113, c_116, b_118], by simp [restrict_env, h_4, h_5, h_9, h_24, q_97, q_98, q_99, q_100, q_101, q_102, q_103, q_104, q_105, q_106, h_108, b_111, b_112, c_113, c_116, b_118], by simp [restrict_mem, h_4, h_5, h_9, h_24, q_97, q_98, q_99, q_100, q_101, q_102, q_103, q_104, q_105, q_106, h_108, b_111, b_112, c_113, c_116, b_118], by simp [restrict_mem, h_4, h_5, h_9, h_24, q_97, q_98, q_99, q_100, q_101, q_102, q_103, q_104, q_105, q_106, h_108, b_111, b_112, c_113, c_116, b_118], by simp [restrict_mem, h_4, h_5, h_9, h_24, q_97, q_98, q_99, q_100, q_101, q_102, q_103, q_104, q_105, q_106, h_108, b_111, b_112, c_113, c_116, b_118], by simp [restrict_mem, h_4, h_5, h_9, h_24, q_97, q_98, q_99, q_100, q_101, q_102, q_103, q_104, q_105, q_106, h_108, b_111, b_112, c_113, c_116, b_118], NoBox.restrict (by intro k hk hb; simp at hk hb; simp [hk, hb, h_4, h_5, h_9, h_24, q_97, q_98, q_99, q_100, q_101, q_102, q_103, q_104, q_105, q_106, h_108, b_111, b_112, c_113, c_116, b_118, hn_107 k (by simp [hk, hb])])⟩
                · try simp at h_108
                  cases hp
                  try simp [h_4, h_5, h_9, h_24, q_97, q_98, q_99, q_100, q_101, q_102, q_103, q_104, q_105, q_106, h_108]
                  refine goal_outX ?_
                  rw [X_95_]
                  exact ⟨_, rfl, by simp [restrict_env, h_4, h_5, h_9, h_24, q_97, q_98, q_99, q_100, q_101, q_102, q_103, q_104, q_105, q_106, h_108], by simp [restrict_env, h_4, h_5, h_9, h_24, q_97, q_98, q_99, q_100, q_101, q_102, q_103, q_104, q_105, q_106, h_108], by simp [restrict_env, h_4, h_5, h_9, h_24, q_97, q_98, q_99, q_100, q_101, q_102, q_103, q_104, q_105, q_106, h_108], by simp [restrict_env, h_4, h_5, h_9, h_24, q_97, q_98, q_99, q_100, q_101, q_102, q_103, q_104, q_105, q_106, h_108], by simp [restrict_env, h_4, h_5, h_9, h_24, q_97, q_98, q_99, q_100, q_101, q_102, q_103, q_104, q_105, q_106, h_108], by simp [restrict_mem, h_4, h_5, h_9, h_24, q_97, q_98, q_99, q_100, q_101, q_102, q_103, q_104, q_105, q_106, h_108], by simp [restrict_mem, h_4, h_5, h_9, h_24, q_97, q_98, q_99, q_100, q_101, q_102, q_103, q_104, q_105, q_106, h_108], by simp [restrict_mem, h_4, h_5, h_9, h_24, q_97, q_98, q_99, q_100, q_101, q_102, q_103, q_104, q_105, q_106, h_108], by simp [restrict_mem, h_4, h_5, h_9, h_24, q_97, q_98, q_99, q_100, q_101, q_102, q_103, q_104, q_105, q_106, h_108], NoBox.restrict (by intro k hk hb; simp at hk hb; simp [hk, hb, h_4, h_5, h_9, h_24, q_97, q_98, q_99, q_100, q_101, q_102, q_103, q_104, q_105, q_106, h_108, hn_107 k (by simp [hk, hb])])⟩
              · intro out hX
                rw [X_95_] at hX
                obtain ⟨σ_121, rfl, q_122, q_123, q_124, q_125, q_126, q_127, q_128, q_129, q_130, hn_131⟩ := hX
                cases hp
                try simp [h_4, h_5, h_9, h_24, q_122, q_123, q_124, q_125, q_126, q_127, q_128, q_129, q_130]
                refine goal_next ?_
                rw [I_12_]
                exact ⟨by simp [restrict_env, h_4, h_5, h_9, h_24, q_122, q_123, q_124, q_125, q_126, q_127, q_128, q_129, q_130], by simp [restrict_env, h_4, h_5, h_9, h_24, q_122, q_123, q_124, q_125, q_126, q_127, q_128, q_129, q_130], by simp [restrict_env, h_4, h_5, h_9, h_24, q_122, q_123, q_124, q_125, q_126, q_127, q_128, q_129, q_130], by simp [restrict_env, h_4, h_5, h_9, h_24, q_122, q_123, q_124, q_125, q_126, q_127, q_128, q_129, q_130], by simp [restrict_env, h_4, h_5, h_9, h_24, q_122, q_123, q_124, q_125, q_126, q_127, q_128, q_129, q_130], by simp [restrict_mem, h_4, h_5, h_9, h_24, q_122, q_123, q_124, q_125, q_126, q_127, q_128, q_129, q_130], by simp [restrict_mem, h_4, h_5, h_9, h_24, q_122, q_123, q_124, q_125, q_126, q_127, q_128, q_129, q_130], by simp [restrict_mem, h_4, h_5, h_9, h_24, q_122, q_123, q_124, q_125, q_126, q_127, q_128, q_129, q_130], NoBox.restrict (by intro k hk hb; simp at hk hb; simp [hk, hb, h_4, h_5, h_9, h_24, q_122, q_123, q_124, q_125, q_126, q_127, q_128, q_129, q_130, hn_131 k (by simp [hk, hb])])⟩
          · try simp at h_24
            cases hp
            try simp [h_4, h_5, h_9, q_15, q_16, q_17, q_18, q_19, q_20, q_21, q_22, h_24]
            refine goal_outX ?_
            rw [X_13_]
            exact ⟨_, rfl, by simp [restrict_env, h_4, h_5, h_9, q_15, q_16, q_17, q_18, q_19, q_20, q_21, q_22, h_24], by simp [restrict_env, h_4, h_5, h_9, q_15, q_16, q_17, q_18, q_19, q_20, q_21, q_22, h_24], by simp [restrict_mem, h_4, h_5, h_9, q_15, q_16, q_17, q_18, q_19, q_20, q_21, q_22, h_24], by simp [restrict_mem, h_4, h_5, h_9, q_15, q_16, q_17, q_18, q_19, q_20, q_21, q_22, h_24], by simp [restrict_mem, h_4, h_5, h_9, q_15, q_16, q_17, q_18, q_19, q_20, q_21, q_22, h_24], NoBox.restrict (by intro k hk hb; simp at hk hb; simp [hk, hb, h_4, h_5, h_9, q_15, q_16, q_17, q_18, q_19, q_20, q_21, q_22, h_24, hn_23 k (by simp [hk, hb])])⟩
        · intro out hX
          rw [X_13_] at hX
          obtain ⟨σ_134, rfl, q_135, q_136, q_137, q_138, q_139, hn_140⟩ := hX
          cases hp
          simp [Goal, FnEnd, retR, rsrc, RSrc.val, nodupR, nodup, tupPart, h_4, h_5, h_9, q_135, q_136, q_137, q_138, q_139]
      · try simp at h_9
        cases hp
        simp [Goal, FnEnd, retR, rsrc, RSrc.val, nodupR, nodup, tupPart, h_4, h_5, h_9]
  · try simp at h_4
    cases hp
    simp [Goal, FnEnd, retR, rsrc, RSrc.val, nodupR, nodup, tupPart, h_4]
theorem pc102 : PC Try.prog 102 C102 := pc_of (g := g102) (ctxOK_of [(45, C45), (103, C103), (124, C124), (148, C148), (149, C149), (150, C150)] rfl ⟨pc45, pc103, pc124, pc148, pc149, pc150, trivial⟩) ⟨Try.f102, Try.func102, by kernel_rfl, by kernel_rfl⟩ fun x y h => w102 h
end Go.Proofs
