import Derived.Test.YtdjpaoikfigfhaaEvA14
set_option linter.unusedSimpArgs false
set_option linter.unusedVariables false
set_option linter.unnecessarySimpa false
namespace Go.Proofs
open Go.Ev
noncomputable def C167 : List AV → Option AV := specP (X := Bool × Unit) fun x => impl_truthOf x.1
theorem C167_eq {b_} {y} (h : impl_truthOf b_ = some y) : C167 [av .shr b_] = some (Res.res y) := specP_eq (X := Bool × Unit) (F := fun x => impl_truthOf x.1) (x := (b_, ())) h
noncomputable def g167 : Cfg := { P := Try.prog, take := [], keep := [], gho := [], ctx := [] }
@[simp] theorem g167_P : g167.P = Try.prog := rfl
@[simp] theorem g167_t : g167.take = [] := rfl
@[simp] theorem g167_g : g167.gho = [] := rfl
@[simp] theorem g167_r : g167.ro = [] := rfl
@[simp] theorem g167_w : g167.away = [] := by rw [g167]
set_option maxHeartbeats 4000000 in
set_option maxRecDepth 100000 in
theorem w167 {b_} {y} (hp : impl_truthOf b_ = some y) : ∃ m, callo g167 0 167 [av .shr b_] mem0 = some (Res.res y, m) := by
  refine start_fn (Try.f167.body.getD .skip) [.tmp 2] rfl rfl Try.func167 (by kernel_rfl) (by kernel_rfl) (by simp [Try.ntmps167]) rfl ?_
  unfold impl_truthOf at hp
  simp [Try.f167]
  rcases cond_cases hp with ⟨h_1, hp⟩ | ⟨h_1, hp⟩
  · try simp at h_1
    cases hp
    simp [Goal, FnEnd, h_1]
  · try simp at h_1
    cases hp
    simp [Goal, FnEnd, h_1]
theorem pc167 : PC Try.prog 167 C167 := pc_of (g := g167) (fun f F h => by cases h) ⟨Try.f167, Try.func167, by kernel_rfl, by kernel_rfl⟩ fun x y h => w167 h

noncomputable def C230 : List AV → Option AV := specP (X := (List Int) × Int × Unit) fun x => slices_Index_int x.1 x.2.1
theorem C230_eq {s v} {y} (h : slices_Index_int s v = some y) : C230 [av .shr s, av .shr v] = some (Res.res y) := specP_eq (X := (List Int) × Int × Unit) (F := fun x => slices_Index_int x.1 x.2.1) (x := (s, v, ())) h
noncomputable def g230 : Cfg := { P := Try.prog, take := [], keep := [((230, 2), { hd := [0, 1, 7, 8], bx := [], ex := [], rt := [4] })], gho := [], ctx := [] }
@[simp] theorem g230_P : g230.P = Try.prog := rfl
@[simp] theorem g230_t : g230.take = [] := rfl
@[simp] theorem g230_g : g230.gho = [] := rfl
@[simp] theorem g230_r : g230.ro = [] := rfl
@[simp] theorem g230_w : g230.away = [] := by rw [g230]
set_option maxHeartbeats 4000000 in
set_option maxRecDepth 100000 in
theorem w230 {s v} {y} (hp : slices_Index_int s v = some y) : ∃ m, callo g230 0 230 [av .shr s, av .shr v] mem0 = some (Res.res y, m) := by
  refine start_fn (Try.f230.body.getD .skip) [.tmp 4] rfl rfl Try.func230 (by kernel_rfl) (by kernel_rfl) (by simp [Try.ntmps230]) rfl ?_
  unfold slices_Index_int at hp
  simp [Try.f230]
  obtain ⟨r_18, h_19, hp⟩ := bind_some hp
  obtain ⟨I_3, I_3_⟩ : ∃ I : Int → St → Prop, I = (fun (s_1 : Int) (σ : St) => σ.env 0 = .one (.l .shr s.length (encL s)) ∧ σ.env 1 = .one (.s (.int .i64 v)) ∧ σ.env 7 = .one (.s (.int .i64 (s.length : Int))) ∧ σ.env 8 = .one (.s (.int .i64 s_1)) ∧ σ.mem = mem0) := ⟨_, rfl⟩
  obtain ⟨X_4, X_4_⟩ : ∃ X : ((Int) ⊕ (Unit)) → Out → Prop, X = (fun (r_18 : (Int) ⊕ (Unit)) (out : Out) => Sum.elim (fun r_18 => ∃ σ : St, out = .ret σ ∧ σ.env 4 = .one (.s (.int .i64 r_18)) ∧ σ.mem = mem0) (fun r_18 => ∃ σ : St, out = .exit 0 σ ∧ σ.mem = mem0) r_18) := ⟨_, rfl⟩
  refine loopP ({ hd := [0, 1, 7, 8], bx := [], ex := [], rt := [4] }) I_3 X_4 h_19 (by exact rfl) ?_ ?_ ?_
  · rw [I_3_]
    refine ⟨?_, ?_, ?_, ?_, ?_⟩ <;> simp [restrict_env, restrict_mem]
  · intro s_1 σ_5 a_2 hI hp
    rw [I_3_] at hI
    obtain ⟨q_6, q_7, q_8, q_9, q_10⟩ := hI
    try simp [q_6, q_7, q_8, q_9, q_10]
    rcases cond_cases hp with ⟨h_11, hp⟩ | ⟨h_11, hp⟩
    · try simp at h_11
      obtain ⟨e_12, h_13, hp⟩ := bind_some hp
      have b_14 := at_lo h_13
      have b_15 := at_hi h_13
      try simp at b_14
      try simp at b_15
      have c_16 := seg_at' h_13 0 1 (by decide) (ds := [.sc (.int .i64 e_12)]) rfl
      try simp at c_16
      try simp [q_6, q_7, q_8, q_9, q_10, h_11, b_14, b_15, c_16]
      rcases cond_cases hp with ⟨h_17, hp⟩ | ⟨h_17, hp⟩
      · try simp at h_17
        cases hp
        try simp [q_6, q_7, q_8, q_9, q_10, h_11, h_17]
        refine goal_outR ?_
        rw [X_4_]
        refine ⟨_, rfl, ?_, ?_⟩ <;> simp [restrict_env, restrict_mem, q_6, q_7, q_8, q_9, q_10, h_11, h_17]
      · try simp at h_17
        cases hp
        try simp [q_6, q_7, q_8, q_9, q_10, h_11, h_17]
        refine goal_next ?_
        rw [I_3_]
        refine ⟨?_, ?_, ?_, ?_, ?_⟩ <;> simp [restrict_env, restrict_mem, q_6, q_7, q_8, q_9, q_10, h_11, h_17]
    · try simp at h_11
      cases hp
      try simp [q_6, q_7, q_8, q_9, q_10, h_11]
      refine goal_outX ?_
      rw [X_4_]
      exact ⟨_, rfl, by simp [restrict_mem, q_6, q_7, q_8, q_9, q_10, h_11]⟩
  · intro out hX
    rw [X_4_] at hX
    rcases r_18 with r_18 | r_18
    · simp only [Sum.elim_inl, Sum.elim_inr] at hX hp
      obtain ⟨σ_20, rfl, q_21, q_22⟩ := hX
      cases hp
      simp [Goal, FnEnd, q_21, q_22]
    · simp only [Sum.elim_inl, Sum.elim_inr] at hX hp
      obtain ⟨σ_23, rfl, q_24⟩ := hX
      cases hp
      simp [Goal, FnEnd, q_24]
theorem pc230 : PC Try.prog 230 C230 := pc_of (g := g230) (fun f F h => by cases h) ⟨Try.f230, Try.func230, by kernel_rfl, by kernel_rfl⟩ fun x y h => w230 h

noncomputable def C169 : List AV → Option AV := specP (X := (List Int) × Int × Unit) fun x => slices_Contains_int x.1 x.2.1
theorem C169_eq {s v} {y} (h : slices_Contains_int s v = some y) : C169 [av .shr s, av .shr v] = some (Res.res y) := specP_eq (X := (List Int) × Int × Unit) (F := fun x => slices_Contains_int x.1 x.2.1) (x := (s, v, ())) h
noncomputable def g169 : Cfg := { P := Try.prog, take := [], keep := [], gho := [], ctx := [(230, C230)] }
@[simp] theorem g169_P : g169.P = Try.prog := rfl
@[simp] theorem g169_t : g169.take = [] := rfl
@[simp] theorem g169_g : g169.gho = [] := rfl
@[simp] theorem g169_r : g169.ro = [] := rfl
@[simp] theorem g169_w : g169.away = [] := by rw [g169]
@[simp] theorem g169_230 : lookN 230 g169.ctx = some C230 := rfl
set_option maxHeartbeats 4000000 in
set_option maxRecDepth 100000 in
theorem w169 {s v} {y} (hp : slices_Contains_int s v = some y) : ∃ m, callo g169 0 169 [av .shr s, av .shr v] mem0 = some (Res.res y, m) := by
  refine start_fn (Try.f169.body.getD .skip) [.tmp 4] rfl rfl Try.func169 (by kernel_rfl) (by kernel_rfl) (by simp [Try.ntmps169]) rfl ?_
  unfold slices_Contains_int at hp
  obtain ⟨y_1, h_2, hp⟩ := bind_some hp
  have c_3 := C230_eq h_2
  simp at c_3
  cases hp
  simp [Try.f169, Goal, FnEnd, c_3]
theorem pc169 : PC Try.prog 169 C169 := pc_of (g := g169) (ctxOK_of [(230, C230)] rfl ⟨pc230, trivial⟩) ⟨Try.f169, Try.func169, by kernel_rfl, by kernel_rfl⟩ fun x y h => w169 h

noncomputable def C170 : List AV → Option AV := specP (X := THeap × Int × Unit) fun x => impl_Followed x.1 x.2.1
theorem C170_eq {h_ cell} {y} (h : impl_Followed h_ cell = some y) : C170 [av .shr h_, av .shr cell] = some (Res.res y) := specP_eq (X := THeap × Int × Unit) (F := fun x => impl_Followed x.1 x.2.1) (x := (h_, cell, ())) h
noncomputable def g170 : Cfg := { P := Try.prog, take := [(170, 27), (170, 31)], keep := [((170, 3), { hd := [1, 2, 5, 6], bx := [], ex := [5], rt := [4] })], gho := [], ctx := [(169, C169), (229, C229)] }
@[simp] theorem g170_P : g170.P = Try.prog := rfl
@[simp] theorem g170_t : g170.take = [(170, 27), (170, 31)] := rfl
@[simp] theorem g170_g : g170.gho = [] := rfl
@[simp] theorem g170_r : g170.ro = [] := rfl
@[simp] theorem g170_w : g170.away = [] := by rw [g170]
@[simp] theorem g170_169 : lookN 169 g170.ctx = some C169 := rfl
@[simp] theorem g170_229 : lookN 229 g170.ctx = some C229 := rfl
set_option maxHeartbeats 4000000 in
set_option maxRecDepth 100000 in
theorem w170 {h_ cell} {y} (hp : impl_Followed h_ cell = some y) : ∃ m, callo g170 0 170 [av .shr h_, av .shr cell] mem0 = some (Res.res y, m) := by
  refine start_fn (Try.f170.body.getD .skip) [.tmp 4] rfl rfl Try.func170 (by kernel_rfl) (by kernel_rfl) (by simp [Try.ntmps170]) rfl ?_
  unfold impl_Followed at hp
  simp [Try.f170]
  obtain ⟨r_44, h_45, hp⟩ := bind_some hp
  obtain ⟨I_3, I_3_⟩ : ∃ I : (List Int) × Int → St → Prop, I = (fun (s_1 : (List Int) × Int) (σ : St) => σ.env 1 = .one (.s (.int .i64 cell)) ∧ σ.env 2 = .one (.ptr (1, 2) 0) ∧ σ.env 5 = .one (.l .own s_1.1.length (encL s_1.1)) ∧ σ.env 6 = .one (.s (.int .i64 s_1.2)) ∧ σ.mem (1, 2) = some [(.l .shr h_.vars.length (encL h_.vars)), (.l .shr h_.next.length (encL h_.next))] ∧ NoBox [(1, 2)] σ.mem) := ⟨_, rfl⟩
  obtain ⟨X_4, X_4_⟩ : ∃ X : (((List Int)) ⊕ (Unit)) → Out → Prop, X = (fun (r_44 : ((List Int)) ⊕ (Unit)) (out : Out) => Sum.elim (fun r_44 => ∃ σ : St, out = .exit 0 σ ∧ σ.env 5 = .one (.l .own r_44.length (encL r_44)) ∧ σ.mem (1, 2) = some [(.l .shr h_.vars.length (encL h_.vars)), (.l .shr h_.next.length (encL h_.next))] ∧ NoBox [(1, 2)] σ.mem) (fun r_44 => ∃ σ : St, out = .ret σ ∧ σ.env 4 = .one (.l .own 0 []) ∧ σ.mem (1, 2) = some [(.l .shr h_.vars.length (encL h_.vars)), (.l .shr h_.next.length (encL h_.next))] ∧ NoBox [(1, 2)] σ.mem) r_44) := ⟨_, rfl⟩
  refine loopP ({ hd := [1, 2, 5, 6], bx := [], ex := [5], rt := [4] }) I_3 X_4 h_45 (by exact rfl) ?_ ?_ ?_
  · rw [I_3_]
    refine ⟨?_, ?_, ?_, ?_, ?_, NoBox.restrict (by intro k hk hb; simp at hk hb; simp [hk, hb])⟩ <;> simp [restrict_env, restrict_mem]
  · intro s_1 σ_5 a_2 hI hp
    rw [I_3_] at hI
    obtain ⟨q_6, q_7, q_8, q_9, q_10, hn_11⟩ := hI
    try simp [q_6, q_7, q_8, q_9, q_10]
    rcases cond_cases hp with ⟨h_12, hp⟩ | ⟨h_12, hp⟩
    · try simp at h_12
      obtain ⟨y_13, h_14, hp⟩ := bind_some hp
      have c_15 := C229_eq h_14
      simp at c_15
      try simp [q_6, q_7, q_8, q_9, q_10, h_12, c_15]
      rcases cond_cases hp with ⟨h_16, hp⟩ | ⟨h_16, hp⟩
      · try simp at h_16
        obtain ⟨y_17, h_18, hp⟩ := bind_some hp
        have c_19 := C169_eq h_18
        simp at c_19
        try simp [q_6, q_7, q_8, q_9, q_10, h_12, h_16, c_19]
        rcases cond_cases hp with ⟨h_20, hp⟩ | ⟨h_20, hp⟩
        · try simp at h_20
          cases hp
          try simp [q_6, q_7, q_8, q_9, q_10, h_12, h_16, h_20]
          refine goal_outX ?_
          rw [X_4_]
          refine ⟨_, rfl, ?_, ?_, NoBox.restrict (by intro k hk hb; simp at hk hb; simp [hk, hb, q_6, q_7, q_8, q_9, q_10, h_12, h_16, h_20, hn_11 k (by simp [hk, hb])])⟩ <;> simp [restrict_env, restrict_mem, q_6, q_7, q_8, q_9, q_10, h_12, h_16, h_20]
        · try simp at h_20
          obtain ⟨_, h_21, hp⟩ := bind_some hp
          have b_22 := room_ok h_21
          try simp at b_22
          obtain ⟨e_23, h_24, hp⟩ := bind_some hp
          have b_25 := at_lo h_24
          have b_26 := at_hi h_24
          try simp at b_25
          try simp at b_26
          have c_27 := seg_at' h_24 0 1 (by decide) (ds := [.sc (.int .i64 e_23)]) rfl
          try simp at c_27
          cases hp
          try simp [q_6, q_7, q_8, q_9, q_10, h_12, h_16, h_20, b_22, b_25, b_26, c_27]
          refine goal_next ?_
          rw [I_3_]
          refine ⟨?_, ?_, ?_, ?_, ?_, NoBox.restrict (by intro k hk hb; simp at hk hb; simp [hk, hb, q_6, q_7, q_8, q_9, q_10, h_12, h_16, h_20, b_22, b_25, b_26, c_27, hn_11 k (by simp [hk, hb])])⟩ <;> simp [restrict_env, restrict_mem, q_6, q_7, q_8, q_9, q_10, h_12, h_16, h_20, b_22, b_25, b_26, c_27]
      · try simp at h_16
        cases hp
        try simp [q_6, q_7, q_8, q_9, q_10, h_12, h_16]
        refine goal_outR ?_
        rw [X_4_]
        refine ⟨_, rfl, ?_, ?_, NoBox.restrict (by intro k hk hb; simp at hk hb; simp [hk, hb, q_6, q_7, q_8, q_9, q_10, h_12, h_16, hn_11 k (by simp [hk, hb])])⟩ <;> simp [restrict_env, restrict_mem, q_6, q_7, q_8, q_9, q_10, h_12, h_16]
    · try simp at h_12
      try simp [q_6, q_7, q_8, q_9, q_10, h_12]
      rcases cond_cases hp with ⟨h_28, hp⟩ | ⟨h_28, hp⟩
      · try simp at h_28
        obtain ⟨y_29, h_30, hp⟩ := bind_some hp
        have c_31 := C229_eq h_30
        simp at c_31
        try simp [q_6, q_7, q_8, q_9, q_10, h_12, h_28, c_31]
        rcases cond_cases hp with ⟨h_32, hp⟩ | ⟨h_32, hp⟩
        · try simp at h_32
          obtain ⟨y_33, h_34, hp⟩ := bind_some hp
          have c_35 := C169_eq h_34
          simp at c_35
          try simp [q_6, q_7, q_8, q_9, q_10, h_12, h_28, h_32, c_35]
          rcases cond_cases hp with ⟨h_36, hp⟩ | ⟨h_36, hp⟩
          · try simp at h_36
            cases hp
            try simp [q_6, q_7, q_8, q_9, q_10, h_12, h_28, h_32, h_36]
            refine goal_outX ?_
            rw [X_4_]
            refine ⟨_, rfl, ?_, ?_, NoBox.restrict (by intro k hk hb; simp at hk hb; simp [hk, hb, q_6, q_7, q_8, q_9, q_10, h_12, h_28, h_32, h_36, hn_11 k (by simp [hk, hb])])⟩ <;> simp [restrict_env, restrict_mem, q_6, q_7, q_8, q_9, q_10, h_12, h_28, h_32, h_36]
          · try simp at h_36
            obtain ⟨_, h_37, hp⟩ := bind_some hp
            have b_38 := room_ok h_37
            try simp at b_38
            obtain ⟨e_39, h_40, hp⟩ := bind_some hp
            have b_41 := at_lo h_40
            have b_42 := at_hi h_40
            try simp at b_41
            try simp at b_42
            have c_43 := seg_at' h_40 0 1 (by decide) (ds := [.sc (.int .i64 e_39)]) rfl
            try simp at c_43
            cases hp
            try simp [q_6, q_7, q_8, q_9, q_10, h_12, h_28, h_32, h_36, b_38, b_41, b_42, c_43]
            refine goal_next ?_
            rw [I_3_]
            refine ⟨?_, ?_, ?_, ?_, ?_, NoBox.restrict (by intro k hk hb; simp at hk hb; simp [hk, hb, q_6, q_7, q_8, q_9, q_10, h_12, h_28, h_32, h_36, b_38, b_41, b_42, c_43, hn_11 k (by simp [hk, hb])])⟩ <;> simp [restrict_env, restrict_mem, q_6, q_7, q_8, q_9, q_10, h_12, h_28, h_32, h_36, b_38, b_41, b_42, c_43]
        · try simp at h_32
          cases hp
          try simp [q_6, q_7, q_8, q_9, q_10, h_12, h_28, h_32]
          refine goal_outR ?_
          rw [X_4_]
          refine ⟨_, rfl, ?_, ?_, NoBox.restrict (by intro k hk hb; simp at hk hb; simp [hk, hb, q_6, q_7, q_8, q_9, q_10, h_12, h_28, h_32, hn_11 k (by simp [hk, hb])])⟩ <;> simp [restrict_env, restrict_mem, q_6, q_7, q_8, q_9, q_10, h_12, h_28, h_32]
      · try simp at h_28
        cases hp
        try simp [q_6, q_7, q_8, q_9, q_10, h_12, h_28]
        refine goal_outX ?_
        rw [X_4_]
        refine ⟨_, rfl, ?_, ?_, NoBox.restrict (by intro k hk hb; simp at hk hb; simp [hk, hb, q_6, q_7, q_8, q_9, q_10, h_12, h_28, hn_11 k (by simp [hk, hb])])⟩ <;> simp [restrict_env, restrict_mem, q_6, q_7, q_8, q_9, q_10, h_12, h_28]
  · intro out hX
    rw [X_4_] at hX
    rcases r_44 with r_44 | r_44
    · simp only [Sum.elim_inl, Sum.elim_inr] at hX hp
      obtain ⟨σ_46, rfl, q_47, q_48, hn_49⟩ := hX
      cases hp
      simp [Goal, FnEnd, q_47, q_48]
    · simp only [Sum.elim_inl, Sum.elim_inr] at hX hp
      obtain ⟨σ_50, rfl, q_51, q_52, hn_53⟩ := hX
      cases hp
      simp [Goal, FnEnd, q_51, q_52]
theorem pc170 : PC Try.prog 170 C170 := pc_of (g := g170) (ctxOK_of [(169, C169), (229, C229)] rfl ⟨pc169, pc229, trivial⟩) ⟨Try.f170, Try.func170, by kernel_rfl, by kernel_rfl⟩ fun x y h => w170 h

noncomputable def C100 : List AV → Option AV := specP (X := THeap × Unit) fun x => impl_StructureOf x.1
theorem C100_eq {h_} {y} (h : impl_StructureOf h_ = some y) : C100 [av .shr h_] = some (Res.res y) := specP_eq (X := THeap × Unit) (F := fun x => impl_StructureOf x.1) (x := (h_, ())) h
noncomputable def g100 : Cfg := { P := Try.prog, take := [(100, 49), (100, 58), (100, 70), (100, 71), (100, 82), (100, 96)], keep := [((100, 5), { hd := [1, 2, 3, 29, 30], bx := [5], ex := [2, 3], rt := [2] }), ((100, 9), { hd := [1, 2, 3, 4, 5, 29, 30, 42, 43, 44], bx := [], ex := [1, 2, 3, 4, 5, 29, 30], rt := [2] }), ((100, 16), { hd := [1, 2, 3, 4, 29, 30, 77, 78], bx := [], ex := [1, 2, 3, 29, 30], rt := [2] })], gho := [], ctx := [(122, C122), (166, C166), (167, C167), (168, C168), (169, C169), (170, C170)] }
@[simp] theorem g100_P : g100.P = Try.prog := rfl
@[simp] theorem g100_t : g100.take = [(100, 49), (100, 58), (100, 70), (100, 71), (100, 82), (100, 96)] := rfl
@[simp] theorem g100_g : g100.gho = [] := rfl
@[simp] theorem g100_r : g100.ro = [] := rfl
@[simp] theorem g100_w : g100.away = [] := by rw [g100]
@[simp] theorem g100_122 : lookN 122 g100.ctx = some C122 := rfl
@[simp] theorem g100_166 : lookN 166 g100.ctx = some C166 := rfl
@[simp] theorem g100_167 : lookN 167 g100.ctx = some C167 := rfl
@[simp] theorem g100_168 : lookN 168 g100.ctx = some C168 := rfl
@[simp] theorem g100_169 : lookN 169 g100.ctx = some C169 := rfl
@[simp] theorem g100_170 : lookN 170 g100.ctx = some C170 := rfl
set_option maxHeartbeats 4000000 in
set_option maxRecDepth 100000 in
theorem w100 {h_} {y} (hp : impl_StructureOf h_ = some y) : ∃ m, callo g100 0 100 [av .shr h_] mem0 = some (Res.res y, m) := by
  refine start_fn (Try.f100.body.getD .skip) [.cell 2 33] rfl rfl Try.func100 (by kernel_rfl) (by kernel_rfl) (by simp [Try.ntmps100]) rfl ?_
  unfold impl_StructureOf at hp
  obtain ⟨y_1, h_2, hp⟩ := bind_some hp
  have c_3 := C166_eq h_2
  simp at c_3
  simp [Try.f100, c_3]
  rcases cond_cases hp with ⟨h_4, hp⟩ | ⟨h_4, hp⟩
  · try simp at h_4
    try simp [h_4]
    rcases cond_cases hp with ⟨h_5, hp⟩ | ⟨h_5, hp⟩
    · try simp at h_5
      cases hp
      simp [Goal, FnEnd, retR, rsrc, RSrc.val, nodupR, nodup, tupPart, h_4, h_5]
    · try simp at h_5
      obtain ⟨y_6, h_7, hp⟩ := bind_some hp
      have c_8 := C122_eq h_7
      simp at c_8
      try simp [h_4, h_5, c_8]
      rcases cond_cases hp with ⟨h_9, hp⟩ | ⟨h_9, hp⟩
      · try simp at h_9
        try simp [h_4, h_5, h_9]
        obtain ⟨r_133, h_134, hp⟩ := bind_some hp
        obtain ⟨I_12, I_12_⟩ : ∃ I : Int × (List TNode) × (List Int) → St → Prop, I = (fun (s_10 : Int × (List TNode) × (List Int)) (σ : St) => σ.env 1 = .one (.ptr (1, 1) 0) ∧ σ.env 2 = .one (.ptr (1, 2) 0) ∧ σ.env 3 = .one (.ptr (1, 3) 0) ∧ σ.env 29 = .one (.s (.int .i64 (h_.next.length : Int))) ∧ σ.env 30 = .one (.s (.int .i64 s_10.1)) ∧ σ.mem (1, 1) = some [(.l .shr h_.vars.length (encL h_.vars)), (.l .shr h_.next.length (encL h_.next))] ∧ σ.mem (1, 2) = some [(.l .own 0 []), (.l .own 0 [])] ∧ σ.mem (1, 3) = some [(.l .own s_10.2.1.length (encL s_10.2.1)), (.l .own s_10.2.2.length (encL s_10.2.2))] ∧ NoBox [(1, 1), (1, 2), (1, 3)] σ.mem) := ⟨_, rfl⟩
        obtain ⟨X_13, X_13_⟩ : ∃ X : ((List TNode) × (List Int)) → Out → Prop, X = (fun (r_133 : (List TNode) × (List Int)) (out : Out) => ∃ σ : St, out = .exit 0 σ ∧ σ.env 2 = .one (.ptr (1, 2) 0) ∧ σ.env 3 = .one (.ptr (1, 3) 0) ∧ σ.mem (1, 1) = some [(.l .shr h_.vars.length (encL h_.vars)), (.l .shr h_.next.length (encL h_.next))] ∧ σ.mem (1, 2) = some [(.l .own 0 []), (.l .own 0 [])] ∧ σ.mem (1, 3) = some [(.l .own r_133.1.length (encL r_133.1)), (.l .own r_133.2.length (encL r_133.2))] ∧ NoBox [(1, 1), (1, 2), (1, 3)] σ.mem) := ⟨_, rfl⟩
        refine loopP ({ hd := [1, 2, 3, 29, 30], bx := [5], ex := [2, 3], rt := [2] }) I_12 X_13 h_134 (by exact rfl) ?_ ?_ ?_
        · rw [I_12_]
          refine ⟨?_, ?_, ?_, ?_, ?_, ?_, ?_, ?_, NoBox.restrict (by intro k hk hb; simp at hk hb; simp [hk, hb, h_4, h_5, h_9])⟩ <;> simp [restrict_env, restrict_mem, h_4, h_5, h_9]
        · intro s_10 σ_14 a_11 hI hp
          rw [I_12_] at hI
          obtain ⟨q_15, q_16, q_17, q_18, q_19, q_20, q_21, q_22, hn_23⟩ := hI
          try simp [h_4, h_5, h_9, q_15, q_16, q_17, q_18, q_19, q_20, q_21, q_22]
          rcases cond_cases hp with ⟨h_24, hp⟩ | ⟨h_24, hp⟩
          · try simp at h_24
            obtain ⟨y_25, h_26, hp⟩ := bind_some hp
            have c_27 := C168_eq h_26
            simp at c_27
            obtain ⟨y_28, h_29, hp⟩ := bind_some hp
            have c_30 := C167_eq h_29
            simp at c_30
            have n_31 := hn_23 (1, 5) (by simp)
            try simp [h_4, h_5, h_9, q_15, q_16, q_17, q_18, q_19, q_20, q_21, q_22, h_24, c_27, c_30, n_31]
            obtain ⟨r_74, h_75, hp⟩ := bind_some hp
            obtain ⟨I_34, I_34_⟩ : ∃ I : Int × (List Int) × (List Int) → St → Prop, I = (fun (s_32 : Int × (List Int) × (List Int)) (σ : St) => σ.env 1 = .one (.ptr (1, 1) 0) ∧ σ.env 2 = .one (.ptr (1, 2) 0) ∧ σ.env 3 = .one (.ptr (1, 3) 0) ∧ σ.env 4 = .one (.s (.int .i64 s_10.1)) ∧ σ.env 5 = .one (.ptr (1, 5) 0) ∧ σ.env 29 = .one (.s (.int .i64 (h_.next.length : Int))) ∧ σ.env 30 = .one (.s (.int .i64 s_10.1)) ∧ σ.env 42 = .one (.l .shr h_.vars.length (encL h_.vars)) ∧ σ.env 43 = .one (.s (.int .i64 (h_.vars.length : Int))) ∧ σ.env 44 = .one (.s (.int .i64 s_32.1)) ∧ σ.mem (1, 1) = some [(.l .shr h_.vars.length (encL h_.vars)), (.l .shr h_.next.length (encL h_.next))] ∧ σ.mem (1, 2) = some [(.l .own 0 []), (.l .own 0 [])] ∧ σ.mem (1, 3) = some [(.l .own s_10.2.1.length (encL s_10.2.1)), (.l .own s_10.2.2.length (encL s_10.2.2))] ∧ σ.mem (1, 5) = some [(.l .own s_32.2.1.length (encL s_32.2.1)), (.l .own s_32.2.2.length (encL s_32.2.2)), (.s (.int .i64 y_28)), (.s (.int .i64 0))] ∧ NoBox [(1, 1), (1, 2), (1, 3), (1, 5)] σ.mem) := ⟨_, rfl⟩
            obtain ⟨X_35, X_35_⟩ : ∃ X : ((List Int) × (List Int)) → Out → Prop, X = (fun (r_74 : (List Int) × (List Int)) (out : Out) => ∃ σ : St, out = .exit 2 σ ∧ σ.env 1 = .one (.ptr (1, 1) 0) ∧ σ.env 2 = .one (.ptr (1, 2) 0) ∧ σ.env 3 = .one (.ptr (1, 3) 0) ∧ σ.env 4 = .one (.s (.int .i64 s_10.1)) ∧ σ.env 5 = .one (.ptr (1, 5) 0) ∧ σ.env 29 = .one (.s (.int .i64 (h_.next.length : Int))) ∧ σ.env 30 = .one (.s (.int .i64 s_10.1)) ∧ σ.mem (1, 1) = some [(.l .shr h_.vars.length (encL h_.vars)), (.l .shr h_.next.length (encL h_.next))] ∧ σ.mem (1, 2) = some [(.l .own 0 []), (.l .own 0 [])] ∧ σ.mem (1, 3) = some [(.l .own s_10.2.1.length (encL s_10.2.1)), (.l .own s_10.2.2.length (encL s_10.2.2))] ∧ σ.mem (1, 5) = some [(.l .own r_74.1.length (encL r_74.1)), (.l .own r_74.2.length (encL r_74.2)), (.s (.int .i64 y_28)), (.s (.int .i64 0))] ∧ NoBox [(1, 1), (1, 2), (1, 3), (1, 5)] σ.mem) := ⟨_, rfl⟩
            refine loopP ({ hd := [1, 2, 3, 4, 5, 29, 30, 42, 43, 44], bx := [], ex := [1, 2, 3, 4, 5, 29, 30], rt := [2] }) I_34 X_35 h_75 (by exact rfl) ?_ ?_ ?_
            · rw [I_34_]
              refine ⟨?_, ?_, ?_, ?_, ?_, ?_, ?_, ?_, ?_, ?_, ?_, ?_, ?_, ?_, NoBox.restrict (by intro k hk hb; simp at hk hb; simp [hk, hb, h_4, h_5, h_9, q_15, q_16, q_17, q_18, q_19, q_20, q_21, q_22, h_24, hn_23 k (by simp [hk, hb])])⟩ <;> simp [restrict_env, restrict_mem, h_4, h_5, h_9, q_15, q_16, q_17, q_18, q_19, q_20, q_21, q_22, h_24]
            · intro s_32 σ_36 a_33 hI hp
              rw [I_34_] at hI
              obtain ⟨q_37, q_38, q_39, q_40, q_41, q_42, q_43, q_44, q_45, q_46, q_47, q_48, q_49, q_50, hn_51⟩ := hI
              try simp [h_4, h_5, h_9, h_24, q_37, q_38, q_39, q_40, q_41, q_42, q_43, q_44, q_45, q_46, q_47, q_48, q_49, q_50]
              rcases cond_cases hp with ⟨h_52, hp⟩ | ⟨h_52, hp⟩
              · try simp at h_52
                obtain ⟨e_53, h_54, hp⟩ := bind_some hp
                have b_55 := at_lo h_54
                have b_56 := at_hi h_54
                try simp at b_55
                try simp at b_56
                have c_57 := seg_at' h_54 0 1 (by decide) (ds := [.sc (.int .i64 e_53)]) rfl
                try simp at c_57
                obtain ⟨y_58, h_59, hp⟩ := bind_some hp
                have c_60 := C167_eq h_59
                simp at c_60
                obtain ⟨_, h_61, hp⟩ := bind_some hp
                have b_62 := room_ok h_61
                try simp at b_62
                obtain ⟨y_63, h_64, hp⟩ := bind_some hp
                have c_65 := C170_eq h_64
                simp at c_65
                obtain ⟨y_66, h_67, hp⟩ := bind_some hp
                have c_68 := C169_eq h_67
                simp at c_68
                obtain ⟨y_69, h_70, hp⟩ := bind_some hp
                have c_71 := C167_eq h_70
                simp at c_71
                obtain ⟨_, h_72, hp⟩ := bind_some hp
                have b_73 := room_ok h_72
                try simp at b_73
                cases hp
                try simp [h_4, h_5, h_9, h_24, q_37, q_38, q_39, q_40, q_41, q_42, q_43, q_44, q_45, q_46, q_47, q_48, q_49, q_50, h_52, b_55, b_56, c_57, c_60, b_62, c_65, c_68, c_71, b_73]
                refine goal_next ?_
                rw [I_34_]
                refine ⟨?_, ?_, ?_, ?_, ?_, ?_, ?_, ?_, ?_, ?_, ?_, ?_, ?_, ?_, NoBox.restrict (by intro k hk hb; simp at hk hb; simp [hk, hb, h_4, h_5, h_9, h_24, q_37, q_38, q_39, q_40, q_41, q_42, q_43, q_44, q_45, q_46, q_47, q_48, q_49, q_50, h_52, b_55, b_56, c_57, c_60, b_62, c_65, c_68, c_71, b_73, hn_51 k (by simp [hk, hb])])⟩ <;> simp [restrict_env, restrict_mem, h_4, h_5, h_9, h_24, q_37, q_38, q_39, q_40, q_41, q_42, q_43, q_44, q_45, q_46, q_47, q_48, q_49, q_50, h_52, b_55, b_56, c_57, c_60, b_62, c_65, c_68, c_71, b_73]
              · try simp at h_52
                cases hp
                try simp [h_4, h_5, h_9, h_24, q_37, q_38, q_39, q_40, q_41, q_42, q_43, q_44, q_45, q_46, q_47, q_48, q_49, q_50, h_52]
                refine goal_outX ?_
                rw [X_35_]
                refine ⟨_, rfl, ?_, ?_, ?_, ?_, ?_, ?_, ?_, ?_, ?_, ?_, ?_, NoBox.restrict (by intro k hk hb; simp at hk hb; simp [hk, hb, h_4, h_5, h_9, h_24, q_37, q_38, q_39, q_40, q_41, q_42, q_43, q_44, q_45, q_46, q_47, q_48, q_49, q_50, h_52, hn_51 k (by simp [hk, hb])])⟩ <;> simp [restrict_env, restrict_mem, h_4, h_5, h_9, h_24, q_37, q_38, q_39, q_40, q_41, q_42, q_43, q_44, q_45, q_46, q_47, q_48, q_49, q_50, h_52]
            · intro out hX
              rw [X_35_] at hX
              obtain ⟨σ_76, rfl, q_77, q_78, q_79, q_80, q_81, q_82, q_83, q_84, q_85, q_86, q_87, hn_88⟩ := hX
              obtain ⟨_, h_89, hp⟩ := bind_some hp
              have b_90 := room_ok h_89
              try simp at b_90
              try simp [h_4, h_5, h_9, h_24, q_77, q_78, q_79, q_80, q_81, q_82, q_83, q_84, q_85, q_86, q_87, b_90]
              obtain ⟨r_120, h_121, hp⟩ := bind_some hp
              obtain ⟨I_93, I_93_⟩ : ∃ I : Int × (List Int) → St → Prop, I = (fun (s_91 : Int × (List Int)) (σ : St) => σ.env 1 = .one (.ptr (1, 1) 0) ∧ σ.env 2 = .one (.ptr (1, 2) 0) ∧ σ.env 3 = .one (.ptr (1, 3) 0) ∧ σ.env 4 = .one (.s (.int .i64 s_10.1)) ∧ σ.env 29 = .one (.s (.int .i64 (h_.next.length : Int))) ∧ σ.env 30 = .one (.s (.int .i64 s_10.1)) ∧ σ.env 77 = .one (.s (.int .i64 (h_.next.length : Int))) ∧ σ.env 78 = .one (.s (.int .i64 s_91.1)) ∧ σ.mem (1, 1) = some [(.l .shr h_.vars.length (encL h_.vars)), (.l .shr h_.next.length (encL h_.next))] ∧ σ.mem (1, 2) = some [(.l .own 0 []), (.l .own 0 [])] ∧ σ.mem (1, 3) = some [(.l .own (s_10.2.1 ++ [(⟨r_74.1, r_74.2, y_28, 0⟩ : TNode)]).length (encL (s_10.2.1 ++ [(⟨r_74.1, r_74.2, y_28, 0⟩ : TNode)]))), (.l .own s_91.2.length (encL s_91.2))] ∧ σ.mem (1, 5) = some [.dead, .dead, .dead, .dead] ∧ NoBox [(1, 1), (1, 2), (1, 3), (1, 5)] σ.mem) := ⟨_, rfl⟩
              obtain ⟨X_94, X_94_⟩ : ∃ X : (List Int) → Out → Prop, X = (fun (r_120 : (List Int)) (out : Out) => ∃ σ : St, out = .exit 4 σ ∧ σ.env 1 = .one (.ptr (1, 1) 0) ∧ σ.env 2 = .one (.ptr (1, 2) 0) ∧ σ.env 3 = .one (.ptr (1, 3) 0) ∧ σ.env 29 = .one (.s (.int .i64 (h_.next.length : Int))) ∧ σ.env 30 = .one (.s (.int .i64 s_10.1)) ∧ σ.mem (1, 1) = some [(.l .shr h_.vars.length (encL h_.vars)), (.l .shr h_.next.length (encL h_.next))] ∧ σ.mem (1, 2) = some [(.l .own 0 []), (.l .own 0 [])] ∧ σ.mem (1, 3) = some [(.l .own (s_10.2.1 ++ [(⟨r_74.1, r_74.2, y_28, 0⟩ : TNode)]).length (encL (s_10.2.1 ++ [(⟨r_74.1, r_74.2, y_28, 0⟩ : TNode)]))), (.l .own r_120.length (encL r_120))] ∧ σ.mem (1, 5) = some [.dead, .dead, .dead, .dead] ∧ NoBox [(1, 1), (1, 2), (1, 3), (1, 5)] σ.mem) := ⟨_, rfl⟩
              refine loopP ({ hd := [1, 2, 3, 4, 29, 30, 77, 78], bx := [], ex := [1, 2, 3, 29, 30], rt := [2] }) I_93 X_94 h_121 (by exact rfl) ?_ ?_ ?_
              · rw [I_93_]
                refine ⟨?_, ?_, ?_, ?_, ?_, ?_, ?_, ?_, ?_, ?_, ?_, ?_, NoBox.restrict (by intro k hk hb; simp at hk hb; simp [hk, hb, h_4, h_5, h_9, h_24, q_77, q_78, q_79, q_80, q_81, q_82, q_83, q_84, q_85, q_86, q_87, hn_88 k (by simp [hk, hb])])⟩ <;> simp [restrict_env, restrict_mem, h_4, h_5, h_9, h_24, q_77, q_78, q_79, q_80, q_81, q_82, q_83, q_84, q_85, q_86, q_87]
              · intro s_91 σ_95 a_92 hI hp
                rw [I_93_] at hI
                obtain ⟨q_96, q_97, q_98, q_99, q_100, q_101, q_102, q_103, q_104, q_105, q_106, q_107, hn_108⟩ := hI
                try simp [h_4, h_5, h_9, h_24, q_96, q_97, q_98, q_99, q_100, q_101, q_102, q_103, q_104, q_105, q_106, q_107]
                rcases cond_cases hp with ⟨h_109, hp⟩ | ⟨h_109, hp⟩
                · try simp at h_109
                  obtain ⟨e_110, h_111, hp⟩ := bind_some hp
                  have b_112 := at_lo h_111
                  have b_113 := at_hi h_111
                  try simp at b_112
                  try simp at b_113
                  have c_114 := seg_at' h_111 0 1 (by decide) (ds := [.sc (.int .i64 e_110)]) rfl
                  try simp at c_114
                  obtain ⟨y_115, h_116, hp⟩ := bind_some hp
                  have c_117 := C167_eq h_116
                  simp at c_117
                  obtain ⟨_, h_118, hp⟩ := bind_some hp
                  have b_119 := room_ok h_118
                  try simp at b_119
                  cases hp
                  try simp [h_4, h_5, h_9, h_24, q_96, q_97, q_98, q_99, q_100, q_101, q_102, q_103, q_104, q_105, q_106, q_107, h_109, b_112, b_113, c_114, c_117, b_119]
                  refine goal_next ?_
                  rw [I_93_]
                  refine ⟨?_, ?_, ?_, ?_, ?_, ?_, ?_, ?_, ?_, ?_, ?_, ?_, NoBox.restrict (by intro k hk hb; simp at hk hb; simp [hk, hb, h_4, h_5, h_9, h_24, q_96, q_97, q_98, q_99, q_100, q_101, q_102, q_103, q_104, q_105, q_106, q_107, h_109, b_112, b_113, c_114, c_117, b_119, hn_108 k (by simp [hk, hb])])⟩ <;> simp [restrict_env, restrict_mem, h_4, h_5, h_9, h_24, q_96, q_97, q_98, q_99, q_100, q_101, q_102, q_103, q_104, q_105, q_106, q_107, h_109, b_112, b_113, c_114, c_117, b_119]
                · try simp at h_109
                  cases hp
                  try simp [h_4, h_5, h_9, h_24, q_96, q_97, q_98, q_99, q_100, q_101, q_102, q_103, q_104, q_105, q_106, q_107, h_109]
                  refine goal_outX ?_
                  rw [X_94_]
                  refine ⟨_, rfl, ?_, ?_, ?_, ?_, ?_, ?_, ?_, ?_, ?_, NoBox.restrict (by intro k hk hb; simp at hk hb; simp [hk, hb, h_4, h_5, h_9, h_24, q_96, q_97, q_98, q_99, q_100, q_101, q_102, q_103, q_104, q_105, q_106, q_107, h_109, hn_108 k (by simp [hk, hb])])⟩ <;> simp [restrict_env, restrict_mem, h_4, h_5, h_9, h_24, q_96, q_97, q_98, q_99, q_100, q_101, q_102, q_103, q_104, q_105, q_106, q_107, h_109]
              · intro out hX
                rw [X_94_] at hX
                obtain ⟨σ_122, rfl, q_123, q_124, q_125, q_126, q_127, q_128, q_129, q_130, q_131, hn_132⟩ := hX
                cases hp
                try simp [h_4, h_5, h_9, h_24, q_123, q_124, q_125, q_126, q_127, q_128, q_129, q_130, q_131]
                refine goal_next ?_
                rw [I_12_]
                refine ⟨?_, ?_, ?_, ?_, ?_, ?_, ?_, ?_, NoBox.restrict (by intro k hk hb; simp at hk hb; simp [hk, hb, h_4, h_5, h_9, h_24, q_123, q_124, q_125, q_126, q_127, q_128, q_129, q_130, q_131, hn_132 k (by simp [hk, hb])])⟩ <;> simp [restrict_env, restrict_mem, h_4, h_5, h_9, h_24, q_123, q_124, q_125, q_126, q_127, q_128, q_129, q_130, q_131]
          · try simp at h_24
            cases hp
            try simp [h_4, h_5, h_9, q_15, q_16, q_17, q_18, q_19, q_20, q_21, q_22, h_24]
            refine goal_outX ?_
            rw [X_13_]
            refine ⟨_, rfl, ?_, ?_, ?_, ?_, ?_, NoBox.restrict (by intro k hk hb; simp at hk hb; simp [hk, hb, h_4, h_5, h_9, q_15, q_16, q_17, q_18, q_19, q_20, q_21, q_22, h_24, hn_23 k (by simp [hk, hb])])⟩ <;> simp [restrict_env, restrict_mem, h_4, h_5, h_9, q_15, q_16, q_17, q_18, q_19, q_20, q_21, q_22, h_24]
        · intro out hX
          rw [X_13_] at hX
          obtain ⟨σ_135, rfl, q_136, q_137, q_138, q_139, q_140, hn_141⟩ := hX
          cases hp
          simp [Goal, FnEnd, retR, rsrc, RSrc.val, nodupR, nodup, tupPart, h_4, h_5, h_9, q_136, q_137, q_138, q_139, q_140]
      · try simp at h_9
        cases hp
        simp [Goal, FnEnd, retR, rsrc, RSrc.val, nodupR, nodup, tupPart, h_4, h_5, h_9]
  · try simp at h_4
    cases hp
    simp [Goal, FnEnd, retR, rsrc, RSrc.val, nodupR, nodup, tupPart, h_4]
theorem pc100 : PC Try.prog 100 C100 := pc_of (g := g100) (ctxOK_of [(122, C122), (166, C166), (167, C167), (168, C168), (169, C169), (170, C170)] rfl ⟨pc122, pc166, pc167, pc168, pc169, pc170, trivial⟩) ⟨Try.f100, Try.func100, by kernel_rfl, by kernel_rfl⟩ fun x y h => w100 h

noncomputable def C258 : List AV → Option AV := specP (X := TStructure × (List Int) × Unit) fun x => impl_isOnto x.1 x.2.1
theorem C258_eq {t to_} {y} (h : impl_isOnto t to_ = some y) : C258 [av .shr t, av .shr to_] = some (Res.res y) := specP_eq (X := TStructure × (List Int) × Unit) (F := fun x => impl_isOnto x.1 x.2.1) (x := (t, to_, ())) h
noncomputable def g258 : Cfg := { P := Try.prog, take := [], keep := [((258, 2), { hd := [1, 8, 9], bx := [], ex := [], rt := [4] })], gho := [], ctx := [(169, C169)] }
@[simp] theorem g258_P : g258.P = Try.prog := rfl
@[simp] theorem g258_t : g258.take = [] := rfl
@[simp] theorem g258_g : g258.gho = [] := rfl
@[simp] theorem g258_r : g258.ro = [] := rfl
@[simp] theorem g258_w : g258.away = [] := by rw [g258]
@[simp] theorem g258_169 : lookN 169 g258.ctx = some C169 := rfl
set_option maxHeartbeats 4000000 in
set_option maxRecDepth 100000 in
theorem w258 {t to_} {y} (hp : impl_isOnto t to_ = some y) : ∃ m, callo g258 0 258 [av .shr t, av .shr to_] mem0 = some (Res.res y, m) := by
  refine start_fn (Try.f258.body.getD .skip) [.tmp 4] rfl rfl Try.func258 (by kernel_rfl) (by kernel_rfl) (by simp [Try.ntmps258]) rfl ?_
  unfold impl_isOnto at hp
  simp [Try.f258]
  obtain ⟨r_16, h_17, hp⟩ := bind_some hp
  obtain ⟨I_3, I_3_⟩ : ∃ I : Int → St → Prop, I = (fun (s_1 : Int) (σ : St) => σ.env 1 = .one (.l .shr to_.length (encL to_)) ∧ σ.env 8 = .one (.s (.int .i64 (t.nodes.length : Int))) ∧ σ.env 9 = .one (.s (.int .i64 s_1)) ∧ σ.mem (1, 2) = some [(.l .shr t.nodes.length (encL t.nodes)), (.l .shr t.next.length (encL t.next))] ∧ NoBox [(1, 2)] σ.mem) := ⟨_, rfl⟩
  obtain ⟨X_4, X_4_⟩ : ∃ X : ((Unit) ⊕ (Unit)) → Out → Prop, X = (fun (r_16 : (Unit) ⊕ (Unit)) (out : Out) => Sum.elim (fun r_16 => ∃ σ : St, out = .ret σ ∧ σ.env 4 = .one (.s (.bool false)) ∧ σ.mem (1, 2) = some [(.l .shr t.nodes.length (encL t.nodes)), (.l .shr t.next.length (encL t.next))] ∧ NoBox [(1, 2)] σ.mem) (fun r_16 => ∃ σ : St, out = .exit 0 σ ∧ σ.mem (1, 2) = some [(.l .shr t.nodes.length (encL t.nodes)), (.l .shr t.next.length (encL t.next))] ∧ NoBox [(1, 2)] σ.mem) r_16) := ⟨_, rfl⟩
  refine loopP ({ hd := [1, 8, 9], bx := [], ex := [], rt := [4] }) I_3 X_4 h_17 (by exact rfl) ?_ ?_ ?_
  · rw [I_3_]
    refine ⟨?_, ?_, ?_, ?_, NoBox.restrict (by intro k hk hb; simp at hk hb; simp [hk, hb])⟩ <;> simp [restrict_env, restrict_mem]
  · intro s_1 σ_5 a_2 hI hp
    rw [I_3_] at hI
    obtain ⟨q_6, q_7, q_8, q_9, hn_10⟩ := hI
    try simp [q_6, q_7, q_8, q_9]
    rcases cond_cases hp with ⟨h_11, hp⟩ | ⟨h_11, hp⟩
    · try simp at h_11
      obtain ⟨y_12, h_13, hp⟩ := bind_some hp
      have c_14 := C169_eq h_13
      simp at c_14
      try simp [q_6, q_7, q_8, q_9, h_11, c_14]
      rcases cond_cases hp with ⟨h_15, hp⟩ | ⟨h_15, hp⟩
      · try simp at h_15
        cases hp
        try simp [q_6, q_7, q_8, q_9, h_11, h_15]
        refine goal_next ?_
        rw [I_3_]
        refine ⟨?_, ?_, ?_, ?_, NoBox.restrict (by intro k hk hb; simp at hk hb; simp [hk, hb, q_6, q_7, q_8, q_9, h_11, h_15, hn_10 k (by simp [hk, hb])])⟩ <;> simp [restrict_env, restrict_mem, q_6, q_7, q_8, q_9, h_11, h_15]
      · try simp at h_15
        cases hp
        try simp [q_6, q_7, q_8, q_9, h_11, h_15]
        refine goal_outR ?_
        rw [X_4_]
        refine ⟨_, rfl, ?_, ?_, NoBox.restrict (by intro k hk hb; simp at hk hb; simp [hk, hb, q_6, q_7, q_8, q_9, h_11, h_15, hn_10 k (by simp [hk, hb])])⟩ <;> simp [restrict_env, restrict_mem, q_6, q_7, q_8, q_9, h_11, h_15]
    · try simp at h_11
      cases hp
      try simp [q_6, q_7, q_8, q_9, h_11]
      refine goal_outX ?_
      rw [X_4_]
      exact ⟨_, rfl, by simp [restrict_mem, q_6, q_7, q_8, q_9, h_11], NoBox.restrict (by intro k hk hb; simp at hk hb; simp [hk, hb, q_6, q_7, q_8, q_9, h_11, hn_10 k (by simp [hk, hb])])⟩
  · intro out hX
    rw [X_4_] at hX
    rcases r_16 with r_16 | r_16
    · simp only [Sum.elim_inl, Sum.elim_inr] at hX hp
      obtain ⟨σ_18, rfl, q_19, q_20, hn_21⟩ := hX
      cases hp
      simp [Goal, FnEnd, q_19, q_20]
    · simp only [Sum.elim_inl, Sum.elim_inr] at hX hp
      obtain ⟨σ_22, rfl, q_23, hn_24⟩ := hX
      cases hp
      simp [Goal, FnEnd, q_23]
theorem pc258 : PC Try.prog 258 C258 := pc_of (g := g258) (ctxOK_of [(169, C169)] rfl ⟨pc169, trivial⟩) ⟨Try.f258, Try.func258, by kernel_rfl, by kernel_rfl⟩ fun x y h => w258 h

noncomputable def C153 : List AV → Option AV := specP (X := TStructure × Int × Unit) fun x => impl_Structure_isNode x.1 x.2.1
theorem C153_eq {s i} {y} (h : impl_Structure_isNode s i = some y) : C153 [av .shr s, av .shr i] = some (Res.res y) := specP_eq (X := TStructure × Int × Unit) (F := fun x => impl_Structure_isNode x.1 x.2.1) (x := (s, i, ())) h
noncomputable def g153 : Cfg := { P := Try.prog, take := [], keep := [], gho := [], ctx := [(122, C122)] }
@[simp] theorem g153_P : g153.P = Try.prog := rfl
@[simp] theorem g153_t : g153.take = [] := rfl
@[simp] theorem g153_g : g153.gho = [] := rfl
@[simp] theorem g153_r : g153.ro = [] := rfl
@[simp] theorem g153_w : g153.away = [] := by rw [g153]
@[simp] theorem g153_122 : lookN 122 g153.ctx = some C122 := rfl
set_option maxHeartbeats 4000000 in
set_option maxRecDepth 100000 in
theorem w153 {s i} {y} (hp : impl_Structure_isNode s i = some y) : ∃ m, callo g153 0 153 [av .shr s, av .shr i] mem0 = some (Res.res y, m) := by
  refine start_fn (Try.f153.body.getD .skip) [.tmp 4] rfl rfl Try.func153 (by kernel_rfl) (by kernel_rfl) (by simp [Try.ntmps153]) rfl ?_
  unfold impl_Structure_isNode at hp
  obtain ⟨y_1, h_2, hp⟩ := bind_some hp
  have c_3 := C122_eq h_2
  simp at c_3
  cases hp
  simp [Try.f153, Goal, FnEnd, c_3]
theorem pc153 : PC Try.prog 153 C153 := pc_of (g := g153) (ctxOK_of [(122, C122)] rfl ⟨pc122, trivial⟩) ⟨Try.f153, Try.func153, by kernel_rfl, by kernel_rfl⟩ fun x y h => w153 h

noncomputable def C126 : List AV → Option AV := specP (X := Int × Unit) fun x => impl_IsTruth x.1
theorem C126_eq {a_} {y} (h : impl_IsTruth a_ = some y) : C126 [av .shr a_] = some (Res.res y) := specP_eq (X := Int × Unit) (F := fun x => impl_IsTruth x.1) (x := (a_, ())) h
noncomputable def g126 : Cfg := { P := Try.prog, take := [], keep := [], gho := [], ctx := [(122, C122)] }
@[simp] theorem g126_P : g126.P = Try.prog := rfl
@[simp] theorem g126_t : g126.take = [] := rfl
@[simp] theorem g126_g : g126.gho = [] := rfl
@[simp] theorem g126_r : g126.ro = [] := rfl
@[simp] theorem g126_w : g126.away = [] := by rw [g126]
@[simp] theorem g126_122 : lookN 122 g126.ctx = some C122 := rfl
set_option maxHeartbeats 4000000 in
set_option maxRecDepth 100000 in
theorem w126 {a_} {y} (hp : impl_IsTruth a_ = some y) : ∃ m, callo g126 0 126 [av .shr a_] mem0 = some (Res.res y, m) := by
  refine start_fn (Try.f126.body.getD .skip) [.tmp 2] rfl rfl Try.func126 (by kernel_rfl) (by kernel_rfl) (by simp [Try.ntmps126]) rfl ?_
  unfold impl_IsTruth at hp
  obtain ⟨y_1, h_2, hp⟩ := bind_some hp
  have c_3 := C122_eq h_2
  simp at c_3
  cases hp
  simp [Try.f126, Goal, FnEnd, c_3]
theorem pc126 : PC Try.prog 126 C126 := pc_of (g := g126) (ctxOK_of [(122, C122)] rfl ⟨pc122, trivial⟩) ⟨Try.f126, Try.func126, by kernel_rfl, by kernel_rfl⟩ fun x y h => w126 h

noncomputable def C267 : List AV → Option AV := specP (X := Int × Int × Unit) fun x => impl_IsWithin x.1 x.2.1
theorem C267_eq {a_ b_} {y} (h : impl_IsWithin a_ b_ = some y) : C267 [av .shr a_, av .shr b_] = some (Res.res y) := specP_eq (X := Int × Int × Unit) (F := fun x => impl_IsWithin x.1 x.2.1) (x := (a_, b_, ())) h
noncomputable def g267 : Cfg := { P := Try.prog, take := [], keep := [], gho := [], ctx := [(126, C126)] }
@[simp] theorem g267_P : g267.P = Try.prog := rfl
@[simp] theorem g267_t : g267.take = [] := rfl
@[simp] theorem g267_g : g267.gho = [] := rfl
@[simp] theorem g267_r : g267.ro = [] := rfl
@[simp] theorem g267_w : g267.away = [] := by rw [g267]
@[simp] theorem g267_126 : lookN 126 g267.ctx = some C126 := rfl
set_option maxHeartbeats 4000000 in
set_option maxRecDepth 100000 in
theorem w267 {a_ b_} {y} (hp : impl_IsWithin a_ b_ = some y) : ∃ m, callo g267 0 267 [av .shr a_, av .shr b_] mem0 = some (Res.res y, m) := by
  refine start_fn (Try.f267.body.getD .skip) [.tmp 4] rfl rfl Try.func267 (by kernel_rfl) (by kernel_rfl) (by simp [Try.ntmps267]) rfl ?_
  unfold impl_IsWithin at hp
  obtain ⟨y_1, h_2, hp⟩ := bind_some hp
  have c_3 := C126_eq h_2
  simp at c_3
  simp [Try.f267, c_3]
  rcases cond_cases hp with ⟨h_4, hp⟩ | ⟨h_4, hp⟩
  · try simp at h_4
    obtain ⟨y_5, h_6, hp⟩ := bind_some hp
    have c_7 := C126_eq h_6
    simp at c_7
    try simp [h_4, c_7]
    rcases cond_cases hp with ⟨h_8, hp⟩ | ⟨h_8, hp⟩
    · try simp at h_8
      try simp [h_4, h_8]
      rcases cond_cases hp with ⟨h_9, hp⟩ | ⟨h_9, hp⟩
      · try simp at h_9
        cases hp
        simp [Goal, FnEnd, h_4, h_8, h_9]
      · try simp at h_9
        cases hp
        simp [Goal, FnEnd, h_4, h_8, h_9]
    · try simp at h_8
      cases hp
      simp [Goal, FnEnd, h_4, h_8]
  · try simp at h_4
    cases hp
    simp [Goal, FnEnd, h_4]
theorem pc267 : PC Try.prog 267 C267 := pc_of (g := g267) (ctxOK_of [(126, C126)] rfl ⟨pc126, trivial⟩) ⟨Try.f267, Try.func267, by kernel_rfl, by kernel_rfl⟩ fun x y h => w267 h

abbrev G270 (g : Cfg) : Prop := Has Try.prog g 270 Try.f270 [] [(4, { hd := [1, 2, 15, 16, 17], bx := [], ex := [], rt := [6] })] [] []
set_option maxHeartbeats 4000000 in
set_option maxRecDepth 100000 in
theorem wI270 {g : Cfg} (G : G270 g) {d : Nat} {mem : Mem} (hT : Tight d mem)  {s1 : (List Int)} {s2 : (List Int)} {eq : (Int → Int → Option (Bool))} {m_0 : Md} (hm_0 : LentM m_0) {m_1 : Md} (hm_1 : LentM m_1) {fk_eq : Nat} {caps_eq : List (Key × Nat)} (hl_eq : ∀ c ∈ caps_eq, c.1.1 ≤ d) (hc_eq : Clo g d mem fk_eq caps_eq fun x : Int × Int × Unit => eq x.1 x.2.1) {y} (hp : slices_EqualFunc_intint_int_int_ s1 s2 eq = some y) : callo g d 270 [av m_0 s1, av m_1 s2, .one (.fn fk_eq caps_eq)] mem = some (Res.res y, mem) := by
  have gP := G.P; have gt := G.tk; have gr := G.ro; have gg := G.gh
  have k_4 := G.kp (4, { hd := [1, 2, 15, 16, 17], bx := [], ex := [], rt := [6] }) (by simp)
  have hT2 : memKill (fun k => decide (d < k.1)) mem = mem := hT
  refine start_in (Try.f270.body.getD .skip) [.tmp 6] G Try.func270 (by kernel_rfl) (by simp [Try.ntmps270]) rfl ?_
  unfold slices_EqualFunc_intint_int_int_ at hp
  simp [Try.f270, gP, gt, gr, gg, hm_0.copy, hm_0.elem, hm_1.copy, hm_1.elem]
  rcases cond_cases hp with ⟨h_1, hp⟩ | ⟨h_1, hp⟩
  · try simp at h_1
    cases hp
    simp [Goal, FnEndI, memKill_hi, gP, gt, gr, gg, hm_0.copy, hm_0.elem, hm_1.copy, hm_1.elem, h_1, hT2]
  · try simp at h_1
    try simp [gP, gt, gr, gg, hm_0.copy, hm_0.elem, hm_1.copy, hm_1.elem, h_1]
    obtain ⟨r_27, h_28, hp⟩ := bind_some hp
    obtain ⟨I_4, I_4_⟩ : ∃ I : Int → St → Prop, I = (fun (s_2 : Int) (σ : St) => σ.env 1 = .one (.l m_1 s2.length (encL s2)) ∧ σ.env 2 = .one (.fn fk_eq caps_eq) ∧ σ.env 15 = .one (.l m_0 s1.length (encL s1)) ∧ σ.env 16 = .one (.s (.int .i64 (s1.length : Int))) ∧ σ.env 17 = .one (.s (.int .i64 s_2)) ∧ σ.mem = mem) := ⟨_, rfl⟩
    obtain ⟨X_5, X_5_⟩ : ∃ X : ((Unit) ⊕ (Unit)) → Out → Prop, X = (fun (r_27 : (Unit) ⊕ (Unit)) (out : Out) => Sum.elim (fun r_27 => ∃ σ : St, out = .ret σ ∧ σ.env 6 = .one (.s (.bool false)) ∧ σ.mem = mem) (fun r_27 => ∃ σ : St, out = .exit 0 σ ∧ σ.mem = mem) r_27) := ⟨_, rfl⟩
    refine loopP ({ hd := [1, 2, 15, 16, 17], bx := [], ex := [], rt := [6] }) I_4 X_5 h_28 (by exact k_4) ?_ ?_ ?_
    · rw [I_4_]
      refine ⟨?_, by simp [restrict_env, gP, gt, gr, gg, hm_0.copy, hm_0.elem, hm_1.copy, hm_1.elem, h_1] <;> first | (intro x x1 x2 hx; have h0 := hl_eq _ hx; simp at h0; omega) | (intro x hx; have h0 := hl_eq _ hx; simp at h0; omega), ?_, ?_, ?_, ?_⟩ <;> simp [restrict_env, restrict_mem, gP, gt, gr, gg, hm_0.copy, hm_0.elem, hm_1.copy, hm_1.elem, h_1]
    · intro s_2 σ_6 a_3 hI hp
      rw [I_4_] at hI
      obtain ⟨q_7, q_8, q_9, q_10, q_11, q_12⟩ := hI
      try simp [gP, gt, gr, gg, hm_0.copy, hm_0.elem, hm_1.copy, hm_1.elem, h_1, q_7, q_8, q_9, q_10, q_11, q_12]
      rcases cond_cases hp with ⟨h_13, hp⟩ | ⟨h_13, hp⟩
      · try simp at h_13
        obtain ⟨e_14, h_15, hp⟩ := bind_some hp
        have b_16 := at_lo h_15
        have b_17 := at_hi h_15
        try simp at b_16
        try simp at b_17
        have c_18 := seg_at' h_15 0 1 (by decide) (ds := [.sc (.int .i64 e_14)]) rfl
        try simp at c_18
        obtain ⟨e_19, h_20, hp⟩ := bind_some hp
        have b_21 := at_lo h_20
        have b_22 := at_hi h_20
        try simp at b_21
        try simp at b_22
        have c_23 := seg_at' h_20 0 1 (by decide) (ds := [.sc (.int .i64 e_19)]) rfl
        try simp at c_23
        obtain ⟨y_24, h_25, hp⟩ := bind_some hp
        try simp [gP, gt, gr, gg, hm_0.copy, hm_0.elem, hm_1.copy, hm_1.elem, h_1, q_7, q_8, q_9, q_10, q_11, q_12, h_13, b_16, b_17, c_18, b_21, b_22, c_23]
        refine goal_call ([av .shr e_14, av .shr e_19] ++ capsAV caps_eq) (Res.res y_24) (by simp [capsAV, gP, gt, gr, gg, hm_0.copy, hm_0.elem, hm_1.copy, hm_1.elem, h_1, q_7, q_8, q_9, q_10, q_11, q_12, h_13]) (hc_eq _ _ _ (e_14, e_19, ()) _ (Nat.le_succ d) (fun k hk => by first | rfl | rw [q_12]) (by repeat (first | exact tight_mem0 _ | exact hT.up | exact hT | (simp only [q_7, q_8, q_9, q_10, q_11, q_12]; done) | refine Tight.upd ?_ (by simp) (by simp))) ⟨_, _, (.inl rfl), rfl, ⟨_, _, (.inl rfl), rfl, rfl⟩⟩ h_25) ?_
        try simp [gP, gt, gr, gg, hm_0.copy, hm_0.elem, hm_1.copy, hm_1.elem, h_1, q_7, q_8, q_9, q_10, q_11, q_12, h_13]
        rcases cond_cases hp with ⟨h_26, hp⟩ | ⟨h_26, hp⟩
        · try simp at h_26
          cases hp
          try simp [gP, gt, gr, gg, hm_0.copy, hm_0.elem, hm_1.copy, hm_1.elem, h_1, q_7, q_8, q_9, q_10, q_11, q_12, h_13, h_26]
          refine goal_next ?_
          rw [I_4_]
          refine ⟨?_, by simp [restrict_env, gP, gt, gr, gg, hm_0.copy, hm_0.elem, hm_1.copy, hm_1.elem, h_1, q_7, q_8, q_9, q_10, q_11, q_12, h_13, h_26] <;> first | (intro x x1 x2 hx; have h0 := hl_eq _ hx; simp at h0; omega) | (intro x hx; have h0 := hl_eq _ hx; simp at h0; omega), ?_, ?_, ?_, ?_⟩ <;> simp [restrict_env, restrict_mem, gP, gt, gr, gg, hm_0.copy, hm_0.elem, hm_1.copy, hm_1.elem, h_1, q_7, q_8, q_9, q_10, q_11, q_12, h_13, h_26]
        · try simp at h_26
          cases hp
          try simp [gP, gt, gr, gg, hm_0.copy, hm_0.elem, hm_1.copy, hm_1.elem, h_1, q_7, q_8, q_9, q_10, q_11, q_12, h_13, h_26]
          refine goal_outR ?_
          rw [X_5_]
          refine ⟨_, rfl, ?_, ?_⟩ <;> simp [restrict_env, restrict_mem, gP, gt, gr, gg, hm_0.copy, hm_0.elem, hm_1.copy, hm_1.elem, h_1, q_7, q_8, q_9, q_10, q_11, q_12, h_13, h_26]
      · try simp at h_13
        cases hp
        try simp [gP, gt, gr, gg, hm_0.copy, hm_0.elem, hm_1.copy, hm_1.elem, h_1, q_7, q_8, q_9, q_10, q_11, q_12, h_13]
        refine goal_outX ?_
        rw [X_5_]
        exact ⟨_, rfl, by simp [restrict_mem, gP, gt, gr, gg, hm_0.copy, hm_0.elem, hm_1.copy, hm_1.elem, h_1, q_7, q_8, q_9, q_10, q_11, q_12, h_13]⟩
    · intro out hX
      rw [X_5_] at hX
      rcases r_27 with r_27 | r_27
      · simp only [Sum.elim_inl, Sum.elim_inr] at hX hp
        obtain ⟨σ_29, rfl, q_30, q_31⟩ := hX
        cases hp
        simp [Goal, FnEndI, memKill_hi, gP, gt, gr, gg, hm_0.copy, hm_0.elem, hm_1.copy, hm_1.elem, h_1, q_30, q_31, hT2]
      · simp only [Sum.elim_inl, Sum.elim_inr] at hX hp
        obtain ⟨σ_32, rfl, q_33⟩ := hX
        cases hp
        simp [Goal, FnEndI, memKill_hi, gP, gt, gr, gg, hm_0.copy, hm_0.elem, hm_1.copy, hm_1.elem, h_1, q_33, hT2]

noncomputable def C266 : List AV → Option AV := specP (X := TNode × TNode × Unit) fun x => impl_isWithinNode x.1 x.2.1
theorem C266_eq {x_ y_} {y} (h : impl_isWithinNode x_ y_ = some y) : C266 [av .shr x_, av .shr y_] = some (Res.res y) := specP_eq (X := TNode × TNode × Unit) (F := fun x => impl_isWithinNode x.1 x.2.1) (x := (x_, y_, ())) h
noncomputable def g266 : Cfg := { P := Try.prog, take := [], keep := [((270, 4), { hd := [1, 2, 15, 16, 17], bx := [], ex := [], rt := [6] })], gho := [], ctx := [(267, C267)] }
@[simp] theorem g266_P : g266.P = Try.prog := rfl
@[simp] theorem g266_t : g266.take = [] := rfl
@[simp] theorem g266_g : g266.gho = [] := rfl
@[simp] theorem g266_r : g266.ro = [] := rfl
@[simp] theorem g266_w : g266.away = [] := by rw [g266]
@[simp] theorem g266_267 : lookN 267 g266.ctx = some C267 := rfl
@[simp] theorem g266_270 : lookN 270 g266.ctx = none := rfl
set_option maxHeartbeats 4000000 in
set_option maxRecDepth 100000 in
theorem w266 {x_ y_} {y} (hp : impl_isWithinNode x_ y_ = some y) : ∃ m, callo g266 0 266 [av .shr x_, av .shr y_] mem0 = some (Res.res y, m) := by
  have G_270 : G270 g266 := ⟨rfl, by kernel_rfl, rfl, fun t => by simp, noAway (fun t => by simp) (by simp), fun i => by simp [lookK], by simp [g266, lookK], by simp⟩
  refine start_fn (Try.f266.body.getD .skip) [.tmp 4] rfl rfl Try.func266 (by kernel_rfl) (by kernel_rfl) (by simp [Try.ntmps266]) rfl ?_
  unfold impl_isWithinNode at hp
  obtain ⟨y_1, h_2, hp⟩ := bind_some hp
  simp [Try.f266]
  refine goal_call [av .shr x_.vars, av .shr y_.vars, .one (.fn 267 [])] (Res.res y_1) (by simp) (wI270 G_270 (by repeat (first | exact tight_mem0 _ | exact hT.up | exact hT | (simp only [true_and]; done) | refine Tight.upd ?_ (by simp) (by simp))) (.inl rfl) (.inl rfl) (by simp) (clo_ctx (by rfl)) h_2) ?_
  try simp
  rcases cond_cases hp with ⟨h_3, hp⟩ | ⟨h_3, hp⟩
  · try simp at h_3
    obtain ⟨y_4, h_5, hp⟩ := bind_some hp
    try simp [h_3]
    refine goal_call [av .shr x_.reach, av .shr y_.reach, .one (.fn 267 [])] (Res.res y_4) (by simp [h_3]) (wI270 G_270 (by repeat (first | exact tight_mem0 _ | exact hT.up | exact hT | (simp only [true_and]; done) | refine Tight.upd ?_ (by simp) (by simp))) (.inl rfl) (.inl rfl) (by simp) (clo_ctx (by rfl)) h_5) ?_
    try simp [h_3]
    rcases cond_cases hp with ⟨h_6, hp⟩ | ⟨h_6, hp⟩
    · try simp at h_6
      obtain ⟨y_7, h_8, hp⟩ := bind_some hp
      have c_9 := C267_eq h_8
      simp at c_9
      try simp [h_3, h_6, c_9]
      rcases cond_cases hp with ⟨h_10, hp⟩ | ⟨h_10, hp⟩
      · try simp at h_10
        obtain ⟨y_11, h_12, hp⟩ := bind_some hp
        have c_13 := C267_eq h_12
        simp at c_13
        cases hp
        simp [Goal, FnEnd, h_3, h_6, h_10, c_13]
      · try simp at h_10
        cases hp
        simp [Goal, FnEnd, h_3, h_6, h_10]
    · try simp at h_6
      cases hp
      simp [Goal, FnEnd, h_3, h_6]
  · try simp at h_3
    cases hp
    simp [Goal, FnEnd, h_3]
theorem pc266 : PC Try.prog 266 C266 := pc_of (g := g266) (ctxOK_of [(267, C267)] rfl ⟨pc267, trivial⟩) ⟨Try.f266, Try.func266, by kernel_rfl, by kernel_rfl⟩ fun x y h => w266 h

noncomputable def C160 : List AV → Option AV := specP (X := TStructure × Int × Int × Unit) fun x => impl_NextOf x.1 x.2.1 x.2.2.1
theorem C160_eq {s i j} {y} (h : impl_NextOf s i j = some y) : C160 [av .shr s, av .shr i, av .shr j] = some (Res.res y) := specP_eq (X := TStructure × Int × Int × Unit) (F := fun x => impl_NextOf x.1 x.2.1 x.2.2.1) (x := (s, i, j, ())) h
noncomputable def g160 : Cfg := { P := Try.prog, take := [], keep := [], gho := [], ctx := [(153, C153)] }
@[simp] theorem g160_P : g160.P = Try.prog := rfl
@[simp] theorem g160_t : g160.take = [] := rfl
@[simp] theorem g160_g : g160.gho = [] := rfl
@[simp] theorem g160_r : g160.ro = [] := rfl
@[simp] theorem g160_w : g160.away = [] := by rw [g160]
@[simp] theorem g160_153 : lookN 153 g160.ctx = some C153 := rfl
set_option maxHeartbeats 4000000 in
set_option maxRecDepth 100000 in
theorem w160 {s i j} {y} (hp : impl_NextOf s i j = some y) : ∃ m, callo g160 0 160 [av .shr s, av .shr i, av .shr j] mem0 = some (Res.res y, m) := by
  refine start_fn (Try.f160.body.getD .skip) [.tmp 6] rfl rfl Try.func160 (by kernel_rfl) (by kernel_rfl) (by simp [Try.ntmps160]) rfl ?_
  unfold impl_NextOf at hp
  obtain ⟨y_1, h_2, hp⟩ := bind_some hp
  have c_3 := C153_eq h_2
  simp at c_3
  simp [Try.f160, c_3]
  rcases cond_cases hp with ⟨h_4, hp⟩ | ⟨h_4, hp⟩
  · try simp at h_4
    obtain ⟨y_5, h_6, hp⟩ := bind_some hp
    have c_7 := C153_eq h_6
    simp at c_7
    try simp [h_4, c_7]
    rcases cond_cases hp with ⟨h_8, hp⟩ | ⟨h_8, hp⟩
    · try simp at h_8
      try simp [h_4, h_8]
      rcases cond_cases hp with ⟨h_9, hp⟩ | ⟨h_9, hp⟩
      · try simp at h_9
        cases hp
        simp [Goal, FnEnd, h_4, h_8, h_9]
      · try simp at h_9
        obtain ⟨e_10, h_11, hp⟩ := bind_some hp
        have b_12 := at_lo h_11
        have b_13 := at_hi h_11
        try simp at b_12
        try simp at b_13
        have c_14 := seg_at' h_11 0 1 (by decide) (ds := [.sc (.int .i64 e_10)]) rfl
        try simp at c_14
        cases hp
        simp [Goal, FnEnd, h_4, h_8, h_9, b_12, b_13, c_14]
    · try simp at h_8
      cases hp
      simp [Goal, FnEnd, h_4, h_8]
  · try simp at h_4
    cases hp
    simp [Goal, FnEnd, h_4]
theorem pc160 : PC Try.prog 160 C160 := pc_of (g := g160) (ctxOK_of [(153, C153)] rfl ⟨pc153, trivial⟩) ⟨Try.f160, Try.func160, by kernel_rfl, by kernel_rfl⟩ fun x y h => w160 h

noncomputable def C259 : List AV → Option AV := specP (X := TStructure × TStructure × (List Int) × Unit) fun x => impl_fitsSoFar x.1 x.2.1 x.2.2.1
theorem C259_eq {s t to_} {y} (h : impl_fitsSoFar s t to_ = some y) : C259 [av .shr s, av .shr t, av .shr to_] = some (Res.res y) := specP_eq (X := TStructure × TStructure × (List Int) × Unit) (F := fun x => impl_fitsSoFar x.1 x.2.1 x.2.2.1) (x := (s, t, to_, ())) h
noncomputable def g259 : Cfg := { P := Try.prog, take := [], keep := [((259, 5), { hd := [2, 3, 4, 7, 37, 38, 39], bx := [], ex := [], rt := [6] })], gho := [], ctx := [(153, C153), (160, C160), (266, C266), (267, C267)] }
@[simp] theorem g259_P : g259.P = Try.prog := rfl
@[simp] theorem g259_t : g259.take = [] := rfl
@[simp] theorem g259_g : g259.gho = [] := rfl
@[simp] theorem g259_r : g259.ro = [] := rfl
@[simp] theorem g259_w : g259.away = [] := by rw [g259]
@[simp] theorem g259_153 : lookN 153 g259.ctx = some C153 := rfl
@[simp] theorem g259_160 : lookN 160 g259.ctx = some C160 := rfl
@[simp] theorem g259_266 : lookN 266 g259.ctx = some C266 := rfl
@[simp] theorem g259_267 : lookN 267 g259.ctx = some C267 := rfl
set_option maxHeartbeats 4000000 in
set_option maxRecDepth 100000 in
theorem w259 {s t to_} {y} (hp : impl_fitsSoFar s t to_ = some y) : ∃ m, callo g259 0 259 [av .shr s, av .shr t, av .shr to_] mem0 = some (Res.res y, m) := by
  refine start_fn (Try.f259.body.getD .skip) [.tmp 6] rfl rfl Try.func259 (by kernel_rfl) (by kernel_rfl) (by simp [Try.ntmps259]) rfl ?_
  unfold impl_fitsSoFar at hp
  obtain ⟨e_1, h_2, hp⟩ := bind_some hp
  have b_3 := at_lo h_2
  have b_4 := at_hi h_2
  try simp at b_3
  try simp at b_4
  have c_5 := seg_at' h_2 0 1 (by decide) (ds := [.sc (.int .i64 e_1)]) rfl
  try simp at c_5
  obtain ⟨y_6, h_7, hp⟩ := bind_some hp
  have c_8 := C153_eq h_7
  simp at c_8
  simp [Try.f259, b_3, b_4, c_5, c_8]
  rcases cond_cases hp with ⟨h_9, hp⟩ | ⟨h_9, hp⟩
  · try simp at h_9
    obtain ⟨e_10, h_11, hp⟩ := bind_some hp
    have b_12 := at_lo h_11
    have b_13 := at_hi h_11
    try simp at b_12
    try simp at b_13
    have c_14 := seg_at' h_11 0 4 (by decide) (ds := [.sl e_10.vars.length (encL e_10.vars), .sl e_10.reach.length (encL e_10.reach), .sc (.int .i64 e_10.shared), .sc (.int .i64 e_10.many)]) rfl
    try simp at c_14
    obtain ⟨e_15, h_16, hp⟩ := bind_some hp
    cases Option.some.inj (h_2.symm.trans h_16)
    have b_17 := at_lo h_2
    have b_18 := at_hi h_2
    try simp at b_17
    try simp at b_18
    have c_19 := seg_at' h_2 0 1 (by decide) (ds := [.sc (.int .i64 e_1)]) rfl
    try simp at c_19
    obtain ⟨e_20, h_21, hp⟩ := bind_some hp
    have b_22 := at_lo h_21
    have b_23 := at_hi h_21
    try simp at b_22
    try simp at b_23
    have c_24 := seg_at' h_21 0 4 (by decide) (ds := [.sl e_20.vars.length (encL e_20.vars), .sl e_20.reach.length (encL e_20.reach), .sc (.int .i64 e_20.shared), .sc (.int .i64 e_20.many)]) rfl
    try simp at c_24
    obtain ⟨y_25, h_26, hp⟩ := bind_some hp
    have c_27 := C266_eq h_26
    simp at c_27
    try simp [h_9, b_12, b_13, c_14, b_17, b_18, c_19, b_22, b_23, c_24, c_27]
    rcases cond_cases hp with ⟨h_28, hp⟩ | ⟨h_28, hp⟩
    · try simp at h_28
      try simp [h_9, h_28]
      obtain ⟨r_153, h_154, hp⟩ := bind_some hp
      obtain ⟨I_31, I_31_⟩ : ∃ I : Int → St → Prop, I = (fun (s_29 : Int) (σ : St) => σ.env 2 = .one (.l .shr to_.length (encL to_)) ∧ σ.env 3 = .one (.ptr (1, 3) 0) ∧ σ.env 4 = .one (.ptr (1, 4) 0) ∧ σ.env 7 = .one (.s (.int .i64 (subI (to_.length : Int) 1))) ∧ σ.env 37 = .one (.l .shr to_.length (encL to_)) ∧ σ.env 38 = .one (.s (.int .i64 (to_.length : Int))) ∧ σ.env 39 = .one (.s (.int .i64 s_29)) ∧ σ.mem (1, 3) = some [(.l .shr s.nodes.length (encL s.nodes)), (.l .shr s.next.length (encL s.next))] ∧ σ.mem (1, 4) = some [(.l .shr t.nodes.length (encL t.nodes)), (.l .shr t.next.length (encL t.next))] ∧ NoBox [(1, 3), (1, 4)] σ.mem) := ⟨_, rfl⟩
      obtain ⟨X_32, X_32_⟩ : ∃ X : ((Unit) ⊕ (Unit)) → Out → Prop, X = (fun (r_153 : (Unit) ⊕ (Unit)) (out : Out) => Sum.elim (fun r_153 => ∃ σ : St, out = .ret σ ∧ σ.env 6 = .one (.s (.bool false)) ∧ σ.mem (1, 3) = some [(.l .shr s.nodes.length (encL s.nodes)), (.l .shr s.next.length (encL s.next))] ∧ σ.mem (1, 4) = some [(.l .shr t.nodes.length (encL t.nodes)), (.l .shr t.next.length (encL t.next))] ∧ NoBox [(1, 3), (1, 4)] σ.mem) (fun r_153 => ∃ σ : St, out = .exit 0 σ ∧ σ.mem (1, 3) = some [(.l .shr s.nodes.length (encL s.nodes)), (.l .shr s.next.length (encL s.next))] ∧ σ.mem (1, 4) = some [(.l .shr t.nodes.length (encL t.nodes)), (.l .shr t.next.length (encL t.next))] ∧ NoBox [(1, 3), (1, 4)] σ.mem) r_153) := ⟨_, rfl⟩
      refine loopP ({ hd := [2, 3, 4, 7, 37, 38, 39], bx := [], ex := [], rt := [6] }) I_31 X_32 h_154 (by exact rfl) ?_ ?_ ?_
      · rw [I_31_]
        refine ⟨?_, ?_, ?_, ?_, ?_, ?_, ?_, ?_, ?_, NoBox.restrict (by intro k hk hb; simp at hk hb; simp [hk, hb, h_9, h_28])⟩ <;> simp [restrict_env, restrict_mem, h_9, h_28]
      · intro s_29 σ_33 a_30 hI hp
        rw [I_31_] at hI
        obtain ⟨q_34, q_35, q_36, q_37, q_38, q_39, q_40, q_41, q_42, hn_43⟩ := hI
        try simp [h_9, h_28, q_34, q_35, q_36, q_37, q_38, q_39, q_40, q_41, q_42]
        rcases cond_cases hp with ⟨h_44, hp⟩ | ⟨h_44, hp⟩
        · try simp at h_44
          obtain ⟨e_45, h_46, hp⟩ := bind_some hp
          have b_47 := at_lo h_46
          have b_48 := at_hi h_46
          try simp at b_47
          try simp at b_48
          have c_49 := seg_at' h_46 0 1 (by decide) (ds := [.sc (.int .i64 e_45)]) rfl
          try simp at c_49
          try simp [h_9, h_28, q_34, q_35, q_36, q_37, q_38, q_39, q_40, q_41, q_42, h_44, b_47, b_48, c_49]
          rcases cond_cases hp with ⟨h_50, hp⟩ | ⟨h_50, hp⟩
          · try simp at h_50
            obtain ⟨e_51, h_52, hp⟩ := bind_some hp
            cases Option.some.inj (h_2.symm.trans h_52)
            have b_53 := at_lo h_2
            have b_54 := at_hi h_2
            try simp at b_53
            try simp at b_54
            have c_55 := seg_at' h_2 0 1 (by decide) (ds := [.sc (.int .i64 e_1)]) rfl
            try simp at c_55
            try simp [h_9, h_28, q_34, q_35, q_36, q_37, q_38, q_39, q_40, q_41, q_42, h_44, h_50, b_53, b_54, c_55]
            rcases cond_cases hp with ⟨h_56, hp⟩ | ⟨h_56, hp⟩
            · try simp at h_56
              obtain ⟨e_57, h_58, hp⟩ := bind_some hp
              have b_59 := at_lo h_58
              have b_60 := at_hi h_58
              try simp at b_59
              try simp at b_60
              have c_61 := seg_at' h_58 3 1 (by decide) (ds := [.sc (.int .i64 e_57.many)]) rfl
              try simp at c_61
              try simp [h_9, h_28, q_34, q_35, q_36, q_37, q_38, q_39, q_40, q_41, q_42, h_44, h_50, h_56, b_59, b_60, c_61]
              rcases cond_cases hp with ⟨h_62, hp⟩ | ⟨h_62, hp⟩
              · try simp at h_62
                cases hp
                try simp [h_9, h_28, q_34, q_35, q_36, q_37, q_38, q_39, q_40, q_41, q_42, h_44, h_50, h_56, h_62]
                refine goal_outR ?_
                rw [X_32_]
                refine ⟨_, rfl, ?_, ?_, ?_, NoBox.restrict (by intro k hk hb; simp at hk hb; simp [hk, hb, h_9, h_28, q_34, q_35, q_36, q_37, q_38, q_39, q_40, q_41, q_42, h_44, h_50, h_56, h_62, hn_43 k (by simp [hk, hb])])⟩ <;> simp [restrict_env, restrict_mem, h_9, h_28, q_34, q_35, q_36, q_37, q_38, q_39, q_40, q_41, q_42, h_44, h_50, h_56, h_62]
              · try simp at h_62
                obtain ⟨y_63, h_64, hp⟩ := bind_some hp
                have c_65 := C160_eq h_64
                simp at c_65
                obtain ⟨e_66, h_67, hp⟩ := bind_some hp
                cases Option.some.inj (h_2.symm.trans h_67)
                have b_68 := at_lo h_2
                have b_69 := at_hi h_2
                try simp at b_68
                try simp at b_69
                have c_70 := seg_at' h_2 0 1 (by decide) (ds := [.sc (.int .i64 e_1)]) rfl
                try simp at c_70
                obtain ⟨y_71, h_72, hp⟩ := bind_some hp
                have c_73 := C160_eq h_72
                simp at c_73
                obtain ⟨y_74, h_75, hp⟩ := bind_some hp
                have c_76 := C267_eq h_75
                simp at c_76
                try simp [h_9, h_28, q_34, q_35, q_36, q_37, q_38, q_39, q_40, q_41, q_42, h_44, h_50, h_56, h_62, c_65, b_68, b_69, c_70, c_73, c_76]
                rcases cond_cases hp with ⟨h_77, hp⟩ | ⟨h_77, hp⟩
                · try simp at h_77
                  obtain ⟨y_78, h_79, hp⟩ := bind_some hp
                  have c_80 := C160_eq h_79
                  simp at c_80
                  obtain ⟨e_81, h_82, hp⟩ := bind_some hp
                  cases Option.some.inj (h_2.symm.trans h_82)
                  have b_83 := at_lo h_2
                  have b_84 := at_hi h_2
                  try simp at b_83
                  try simp at b_84
                  have c_85 := seg_at' h_2 0 1 (by decide) (ds := [.sc (.int .i64 e_1)]) rfl
                  try simp at c_85
                  obtain ⟨y_86, h_87, hp⟩ := bind_some hp
                  have c_88 := C160_eq h_87
                  simp at c_88
                  obtain ⟨y_89, h_90, hp⟩ := bind_some hp
                  have c_91 := C267_eq h_90
                  simp at c_91
                  try simp [h_9, h_28, q_34, q_35, q_36, q_37, q_38, q_39, q_40, q_41, q_42, h_44, h_50, h_56, h_62, h_77, c_80, b_83, b_84, c_85, c_88, c_91]
                  rcases cond_cases hp with ⟨h_92, hp⟩ | ⟨h_92, hp⟩
                  · try simp at h_92
                    cases hp
                    try simp [h_9, h_28, q_34, q_35, q_36, q_37, q_38, q_39, q_40, q_41, q_42, h_44, h_50, h_56, h_62, h_77, h_92]
                    refine goal_next ?_
                    rw [I_31_]
                    refine ⟨?_, ?_, ?_, ?_, ?_, ?_, ?_, ?_, ?_, NoBox.restrict (by intro k hk hb; simp at hk hb; simp [hk, hb, h_9, h_28, q_34, q_35, q_36, q_37, q_38, q_39, q_40, q_41, q_42, h_44, h_50, h_56, h_62, h_77, h_92, hn_43 k (by simp [hk, hb])])⟩ <;> simp [restrict_env, restrict_mem, h_9, h_28, q_34, q_35, q_36, q_37, q_38, q_39, q_40, q_41, q_42, h_44, h_50, h_56, h_62, h_77, h_92]
                  · try simp at h_92
                    cases hp
                    try simp [h_9, h_28, q_34, q_35, q_36, q_37, q_38, q_39, q_40, q_41, q_42, h_44, h_50, h_56, h_62, h_77, h_92]
                    refine goal_outR ?_
                    rw [X_32_]
                    refine ⟨_, rfl, ?_, ?_, ?_, NoBox.restrict (by intro k hk hb; simp at hk hb; simp [hk, hb, h_9, h_28, q_34, q_35, q_36, q_37, q_38, q_39, q_40, q_41, q_42, h_44, h_50, h_56, h_62, h_77, h_92, hn_43 k (by simp [hk, hb])])⟩ <;> simp [restrict_env, restrict_mem, h_9, h_28, q_34, q_35, q_36, q_37, q_38, q_39, q_40, q_41, q_42, h_44, h_50, h_56, h_62, h_77, h_92]
                · try simp at h_77
                  cases hp
                  try simp [h_9, h_28, q_34, q_35, q_36, q_37, q_38, q_39, q_40, q_41, q_42, h_44, h_50, h_56, h_62, h_77]
                  refine goal_outR ?_
                  rw [X_32_]
                  refine ⟨_, rfl, ?_, ?_, ?_, NoBox.restrict (by intro k hk hb; simp at hk hb; simp [hk, hb, h_9, h_28, q_34, q_35, q_36, q_37, q_38, q_39, q_40, q_41, q_42, h_44, h_50, h_56, h_62, h_77, hn_43 k (by simp [hk, hb])])⟩ <;> simp [restrict_env, restrict_mem, h_9, h_28, q_34, q_35, q_36, q_37, q_38, q_39, q_40, q_41, q_42, h_44, h_50, h_56, h_62, h_77]
            · try simp at h_56
              obtain ⟨y_93, h_94, hp⟩ := bind_some hp
              have c_95 := C160_eq h_94
              simp at c_95
              obtain ⟨e_96, h_97, hp⟩ := bind_some hp
              cases Option.some.inj (h_2.symm.trans h_97)
              have b_98 := at_lo h_2
              have b_99 := at_hi h_2
              try simp at b_98
              try simp at b_99
              have c_100 := seg_at' h_2 0 1 (by decide) (ds := [.sc (.int .i64 e_1)]) rfl
              try simp at c_100
              obtain ⟨y_101, h_102, hp⟩ := bind_some hp
              have c_103 := C160_eq h_102
              simp at c_103
              obtain ⟨y_104, h_105, hp⟩ := bind_some hp
              have c_106 := C267_eq h_105
              simp at c_106
              try simp [h_9, h_28, q_34, q_35, q_36, q_37, q_38, q_39, q_40, q_41, q_42, h_44, h_50, h_56, c_95, b_98, b_99, c_100, c_103, c_106]
              rcases cond_cases hp with ⟨h_107, hp⟩ | ⟨h_107, hp⟩
              · try simp at h_107
                obtain ⟨y_108, h_109, hp⟩ := bind_some hp
                have c_110 := C160_eq h_109
                simp at c_110
                obtain ⟨e_111, h_112, hp⟩ := bind_some hp
                cases Option.some.inj (h_2.symm.trans h_112)
                have b_113 := at_lo h_2
                have b_114 := at_hi h_2
                try simp at b_113
                try simp at b_114
                have c_115 := seg_at' h_2 0 1 (by decide) (ds := [.sc (.int .i64 e_1)]) rfl
                try simp at c_115
                obtain ⟨y_116, h_117, hp⟩ := bind_some hp
                have c_118 := C160_eq h_117
                simp at c_118
                obtain ⟨y_119, h_120, hp⟩ := bind_some hp
                have c_121 := C267_eq h_120
                simp at c_121
                try simp [h_9, h_28, q_34, q_35, q_36, q_37, q_38, q_39, q_40, q_41, q_42, h_44, h_50, h_56, h_107, c_110, b_113, b_114, c_115, c_118, c_121]
                rcases cond_cases hp with ⟨h_122, hp⟩ | ⟨h_122, hp⟩
                · try simp at h_122
                  cases hp
                  try simp [h_9, h_28, q_34, q_35, q_36, q_37, q_38, q_39, q_40, q_41, q_42, h_44, h_50, h_56, h_107, h_122]
                  refine goal_next ?_
                  rw [I_31_]
                  refine ⟨?_, ?_, ?_, ?_, ?_, ?_, ?_, ?_, ?_, NoBox.restrict (by intro k hk hb; simp at hk hb; simp [hk, hb, h_9, h_28, q_34, q_35, q_36, q_37, q_38, q_39, q_40, q_41, q_42, h_44, h_50, h_56, h_107, h_122, hn_43 k (by simp [hk, hb])])⟩ <;> simp [restrict_env, restrict_mem, h_9, h_28, q_34, q_35, q_36, q_37, q_38, q_39, q_40, q_41, q_42, h_44, h_50, h_56, h_107, h_122]
                · try simp at h_122
                  cases hp
                  try simp [h_9, h_28, q_34, q_35, q_36, q_37, q_38, q_39, q_40, q_41, q_42, h_44, h_50, h_56, h_107, h_122]
                  refine goal_outR ?_
                  rw [X_32_]
                  refine ⟨_, rfl, ?_, ?_, ?_, NoBox.restrict (by intro k hk hb; simp at hk hb; simp [hk, hb, h_9, h_28, q_34, q_35, q_36, q_37, q_38, q_39, q_40, q_41, q_42, h_44, h_50, h_56, h_107, h_122, hn_43 k (by simp [hk, hb])])⟩ <;> simp [restrict_env, restrict_mem, h_9, h_28, q_34, q_35, q_36, q_37, q_38, q_39, q_40, q_41, q_42, h_44, h_50, h_56, h_107, h_122]
              · try simp at h_107
                cases hp
                try simp [h_9, h_28, q_34, q_35, q_36, q_37, q_38, q_39, q_40, q_41, q_42, h_44, h_50, h_56, h_107]
                refine goal_outR ?_
                rw [X_32_]
                refine ⟨_, rfl, ?_, ?_, ?_, NoBox.restrict (by intro k hk hb; simp at hk hb; simp [hk, hb, h_9, h_28, q_34, q_35, q_36, q_37, q_38, q_39, q_40, q_41, q_42, h_44, h_50, h_56, h_107, hn_43 k (by simp [hk, hb])])⟩ <;> simp [restrict_env, restrict_mem, h_9, h_28, q_34, q_35, q_36, q_37, q_38, q_39, q_40, q_41, q_42, h_44, h_50, h_56, h_107]
          · try simp at h_50
            obtain ⟨y_123, h_124, hp⟩ := bind_some hp
            have c_125 := C160_eq h_124
            simp at c_125
            obtain ⟨e_126, h_127, hp⟩ := bind_some hp
            cases Option.some.inj (h_2.symm.trans h_127)
            have b_128 := at_lo h_2
            have b_129 := at_hi h_2
            try simp at b_128
            try simp at b_129
            have c_130 := seg_at' h_2 0 1 (by decide) (ds := [.sc (.int .i64 e_1)]) rfl
            try simp at c_130
            obtain ⟨y_131, h_132, hp⟩ := bind_some hp
            have c_133 := C160_eq h_132
            simp at c_133
            obtain ⟨y_134, h_135, hp⟩ := bind_some hp
            have c_136 := C267_eq h_135
            simp at c_136
            try simp [h_9, h_28, q_34, q_35, q_36, q_37, q_38, q_39, q_40, q_41, q_42, h_44, h_50, c_125, b_128, b_129, c_130, c_133, c_136]
            rcases cond_cases hp with ⟨h_137, hp⟩ | ⟨h_137, hp⟩
            · try simp at h_137
              obtain ⟨y_138, h_139, hp⟩ := bind_some hp
              have c_140 := C160_eq h_139
              simp at c_140
              obtain ⟨e_141, h_142, hp⟩ := bind_some hp
              cases Option.some.inj (h_2.symm.trans h_142)
              have b_143 := at_lo h_2
              have b_144 := at_hi h_2
              try simp at b_143
              try simp at b_144
              have c_145 := seg_at' h_2 0 1 (by decide) (ds := [.sc (.int .i64 e_1)]) rfl
              try simp at c_145
              obtain ⟨y_146, h_147, hp⟩ := bind_some hp
              have c_148 := C160_eq h_147
              simp at c_148
              obtain ⟨y_149, h_150, hp⟩ := bind_some hp
              have c_151 := C267_eq h_150
              simp at c_151
              try simp [h_9, h_28, q_34, q_35, q_36, q_37, q_38, q_39, q_40, q_41, q_42, h_44, h_50, h_137, c_140, b_143, b_144, c_145, c_148, c_151]
              rcases cond_cases hp with ⟨h_152, hp⟩ | ⟨h_152, hp⟩
              · try simp at h_152
                cases hp
                try simp [h_9, h_28, q_34, q_35, q_36, q_37, q_38, q_39, q_40, q_41, q_42, h_44, h_50, h_137, h_152]
                refine goal_next ?_
                rw [I_31_]
                refine ⟨?_, ?_, ?_, ?_, ?_, ?_, ?_, ?_, ?_, NoBox.restrict (by intro k hk hb; simp at hk hb; simp [hk, hb, h_9, h_28, q_34, q_35, q_36, q_37, q_38, q_39, q_40, q_41, q_42, h_44, h_50, h_137, h_152, hn_43 k (by simp [hk, hb])])⟩ <;> simp [restrict_env, restrict_mem, h_9, h_28, q_34, q_35, q_36, q_37, q_38, q_39, q_40, q_41, q_42, h_44, h_50, h_137, h_152]
              · try simp at h_152
                cases hp
                try simp [h_9, h_28, q_34, q_35, q_36, q_37, q_38, q_39, q_40, q_41, q_42, h_44, h_50, h_137, h_152]
                refine goal_outR ?_
                rw [X_32_]
                refine ⟨_, rfl, ?_, ?_, ?_, NoBox.restrict (by intro k hk hb; simp at hk hb; simp [hk, hb, h_9, h_28, q_34, q_35, q_36, q_37, q_38, q_39, q_40, q_41, q_42, h_44, h_50, h_137, h_152, hn_43 k (by simp [hk, hb])])⟩ <;> simp [restrict_env, restrict_mem, h_9, h_28, q_34, q_35, q_36, q_37, q_38, q_39, q_40, q_41, q_42, h_44, h_50, h_137, h_152]
            · try simp at h_137
              cases hp
              try simp [h_9, h_28, q_34, q_35, q_36, q_37, q_38, q_39, q_40, q_41, q_42, h_44, h_50, h_137]
              refine goal_outR ?_
              rw [X_32_]
              refine ⟨_, rfl, ?_, ?_, ?_, NoBox.restrict (by intro k hk hb; simp at hk hb; simp [hk, hb, h_9, h_28, q_34, q_35, q_36, q_37, q_38, q_39, q_40, q_41, q_42, h_44, h_50, h_137, hn_43 k (by simp [hk, hb])])⟩ <;> simp [restrict_env, restrict_mem, h_9, h_28, q_34, q_35, q_36, q_37, q_38, q_39, q_40, q_41, q_42, h_44, h_50, h_137]
        · try simp at h_44
          cases hp
          try simp [h_9, h_28, q_34, q_35, q_36, q_37, q_38, q_39, q_40, q_41, q_42, h_44]
          refine goal_outX ?_
          rw [X_32_]
          refine ⟨_, rfl, ?_, ?_, NoBox.restrict (by intro k hk hb; simp at hk hb; simp [hk, hb, h_9, h_28, q_34, q_35, q_36, q_37, q_38, q_39, q_40, q_41, q_42, h_44, hn_43 k (by simp [hk, hb])])⟩ <;> simp [restrict_env, restrict_mem, h_9, h_28, q_34, q_35, q_36, q_37, q_38, q_39, q_40, q_41, q_42, h_44]
      · intro out hX
        rw [X_32_] at hX
        rcases r_153 with r_153 | r_153
        · simp only [Sum.elim_inl, Sum.elim_inr] at hX hp
          obtain ⟨σ_155, rfl, q_156, q_157, q_158, hn_159⟩ := hX
          cases hp
          simp [Goal, FnEnd, h_9, h_28, q_156, q_157, q_158]
        · simp only [Sum.elim_inl, Sum.elim_inr] at hX hp
          obtain ⟨σ_160, rfl, q_161, q_162, hn_163⟩ := hX
          cases hp
          simp [Goal, FnEnd, h_9, h_28, q_161, q_162]
    · try simp at h_28
      cases hp
      simp [Goal, FnEnd, h_9, h_28]
  · try simp at h_9
    cases hp
    simp [Goal, FnEnd, h_9]
theorem pc259 : PC Try.prog 259 C259 := pc_of (g := g259) (ctxOK_of [(153, C153), (160, C160), (266, C266), (267, C267)] rfl ⟨pc153, pc160, pc266, pc267, trivial⟩) ⟨Try.f259, Try.func259, by kernel_rfl, by kernel_rfl⟩ fun x y h => w259 h
end Go.Proofs

