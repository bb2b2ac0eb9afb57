import Derived.Test.YtahcfnjgllpkdaaEvW0
set_option linter.unusedSimpArgs false
set_option linter.unusedVariables false
set_option linter.unnecessarySimpa false
namespace Go.Proofs
open Go.Ev
noncomputable def C95 : List AV → Option AV := specP (X := (List Int) × (List Int) × Unit) fun x => spec_l7Same x.1 x.2.1
theorem C95_eq {a_ b} {y} (h : spec_l7Same a_ b = some y) : C95 [av .shr a_, av .shr b] = some (Res.res y) := specP_eq (X := (List Int) × (List Int) × Unit) (F := fun x => spec_l7Same x.1 x.2.1) (x := (a_, b, ())) h
noncomputable def g95 : Cfg := { P := Try.prog, take := [], keep := [((95, 4), { hd := [0, 1, 5], bx := [], ex := [], rt := [4] })], gho := [], ctx := [] }
@[simp] theorem g95_P : g95.P = Try.prog := rfl
@[simp] theorem g95_t : g95.take = [] := rfl
@[simp] theorem g95_g : g95.gho = [] := rfl
set_option maxRecDepth 100000 in
theorem w95 {a_ b} {y} (hp : spec_l7Same a_ b = some y) : ∃ m, callo g95 0 95 [av .shr a_, av .shr b] mem0 = some (Res.res y, m) := by
  refine start_fn (Try.f95.body.getD .skip) [.tmp 4] rfl rfl Try.func95 (by kernel_rfl) (by kernel_rfl) (by simp [Try.ntmps95]) rfl ?_
  unfold spec_l7Same at hp
  simp [Try.f95]
  rcases cond_cases hp with ⟨h_1, hp⟩ | ⟨h_1, hp⟩
  · try simp at h_1
    cases hp
    simp [Goal, FnEnd, h_1]
  · try simp at h_1
    try simp [h_1]
    obtain ⟨r_23, h_24, hp⟩ := bind_some hp
    obtain ⟨I_4, I_4_⟩ : ∃ I : Int → St → Prop, I = (fun (s_2 : Int) (σ : St) => σ.env 0 = .one (.l .shr a_.length (encL a_)) ∧ σ.env 1 = .one (.l .shr b.length (encL b)) ∧ σ.env 5 = .one (.s (.int .i64 s_2)) ∧ σ.mem = mem0) := ⟨_, rfl⟩
    obtain ⟨X_5, X_5_⟩ : ∃ X : ((Unit) ⊕ (Unit)) → Out → Prop, X = (fun (r_23 : (Unit) ⊕ (Unit)) (out : Out) => Sum.elim (fun r_23 => ∃ σ : St, out = .ret σ ∧ σ.env 4 = .one (.s (.bool false)) ∧ σ.mem = mem0) (fun r_23 => ∃ σ : St, out = .exit 0 σ ∧ σ.mem = mem0) r_23) := ⟨_, rfl⟩
    refine loopP ({ hd := [0, 1, 5], bx := [], ex := [], rt := [4] }) I_4 X_5 h_24 (by exact rfl) ?_ ?_ ?_
    · rw [I_4_]
      exact ⟨by simp [restrict_env, h_1], by simp [restrict_env, h_1], by simp [restrict_env, h_1], by simp [restrict_mem, h_1]⟩
    · intro s_2 σ_6 a_3 hI hp
      rw [I_4_] at hI
      obtain ⟨q_7, q_8, q_9, q_10⟩ := hI
      try simp [h_1, q_7, q_8, q_9, q_10]
      rcases cond_cases hp with ⟨h_11, hp⟩ | ⟨h_11, hp⟩
      · try simp at h_11
        obtain ⟨e_12, h_13, hp⟩ := bind_some hp
        have b_14 := at_lo h_13
        have b_15 := at_hi h_13
        try simp at b_14
        try simp at b_15
        have c_16 := seg_at' h_13 0 1 (by decide) (ds := [.sc (.int .i64 e_12)]) rfl
        try simp at c_16
        obtain ⟨e_17, h_18, hp⟩ := bind_some hp
        have b_19 := at_lo h_18
        have b_20 := at_hi h_18
        try simp at b_19
        try simp at b_20
        have c_21 := seg_at' h_18 0 1 (by decide) (ds := [.sc (.int .i64 e_17)]) rfl
        try simp at c_21
        try simp [h_1, q_7, q_8, q_9, q_10, h_11, b_14, b_15, c_16, b_19, b_20, c_21]
        rcases cond_cases hp with ⟨h_22, hp⟩ | ⟨h_22, hp⟩
        · try simp at h_22
          cases hp
          try simp [h_1, q_7, q_8, q_9, q_10, h_11, h_22]
          refine goal_outR ?_
          rw [X_5_]
          exact ⟨_, rfl, by simp [restrict_env, h_1, q_7, q_8, q_9, q_10, h_11, h_22], by simp [restrict_mem, h_1, q_7, q_8, q_9, q_10, h_11, h_22]⟩
        · try simp at h_22
          cases hp
          try simp [h_1, q_7, q_8, q_9, q_10, h_11, h_22]
          refine goal_next ?_
          rw [I_4_]
          exact ⟨by simp [restrict_env, h_1, q_7, q_8, q_9, q_10, h_11, h_22], by simp [restrict_env, h_1, q_7, q_8, q_9, q_10, h_11, h_22], by simp [restrict_env, h_1, q_7, q_8, q_9, q_10, h_11, h_22], by simp [restrict_mem, h_1, q_7, q_8, q_9, q_10, h_11, h_22]⟩
      · try simp at h_11
        cases hp
        try simp [h_1, q_7, q_8, q_9, q_10, h_11]
        refine goal_outX ?_
        rw [X_5_]
        exact ⟨_, rfl, by simp [restrict_mem, h_1, q_7, q_8, q_9, q_10, h_11]⟩
    · intro out hX
      rw [X_5_] at hX
      rcases r_23 with r_23 | r_23
      · simp only [Sum.elim_inl, Sum.elim_inr] at hX hp
        obtain ⟨σ_25, rfl, q_26, q_27⟩ := hX
        cases hp
        simp [Goal, FnEnd, h_1, q_26, q_27]
      · simp only [Sum.elim_inl, Sum.elim_inr] at hX hp
        obtain ⟨σ_28, rfl, q_29⟩ := hX
        cases hp
        simp [Goal, FnEnd, h_1, q_29]
theorem pc95 : PC Try.prog 95 C95 := pc_of (g := g95) (fun f F h => by cases h) ⟨Try.f95, Try.func95, by kernel_rfl, by kernel_rfl⟩ fun x y h => w95 h

noncomputable def C59 : List AV → Option AV := specP (X := THeap × THeap × Unit) fun x => spec_EqualHeap x.1 x.2.1
theorem C59_eq {a_ b} {y} (h : spec_EqualHeap a_ b = some y) : C59 [av .shr a_, av .shr b] = some (Res.res y) := specP_eq (X := THeap × THeap × Unit) (F := fun x => spec_EqualHeap x.1 x.2.1) (x := (a_, b, ())) h
noncomputable def g59 : Cfg := { P := Try.prog, take := [], keep := [], gho := [], ctx := [(95, C95)] }
@[simp] theorem g59_P : g59.P = Try.prog := rfl
@[simp] theorem g59_t : g59.take = [] := rfl
@[simp] theorem g59_g : g59.gho = [] := rfl
@[simp] theorem g59_95 : lookN 95 g59.ctx = some C95 := rfl
set_option maxRecDepth 100000 in
theorem w59 {a_ b} {y} (hp : spec_EqualHeap a_ b = some y) : ∃ m, callo g59 0 59 [av .shr a_, av .shr b] mem0 = some (Res.res y, m) := by
  refine start_fn (Try.f59.body.getD .skip) [.tmp 4] rfl rfl Try.func59 (by kernel_rfl) (by kernel_rfl) (by simp [Try.ntmps59]) rfl ?_
  unfold spec_EqualHeap at hp
  obtain ⟨y_1, h_2, hp⟩ := bind_some hp
  have c_3 := C95_eq h_2
  simp at c_3
  simp [Try.f59, c_3]
  rcases cond_cases hp with ⟨h_4, hp⟩ | ⟨h_4, hp⟩
  · try simp at h_4
    obtain ⟨y_5, h_6, hp⟩ := bind_some hp
    have c_7 := C95_eq h_6
    simp at c_7
    cases hp
    simp [Goal, FnEnd, h_4, c_7]
  · try simp at h_4
    cases hp
    simp [Goal, FnEnd, h_4]
theorem pc59 : PC Try.prog 59 C59 := pc_of (g := g59) (ctxOK_of [(95, C95)] rfl ⟨pc95, trivial⟩) ⟨Try.f59, Try.func59, by kernel_rfl, by kernel_rfl⟩ fun x y h => w59 h

noncomputable def C15 : List AV → Option AV := specP (X := TSession × TSession × Unit) fun x => spec_EqualSession x.1 x.2.1
theorem C15_eq {a_ b} {y} (h : spec_EqualSession a_ b = some y) : C15 [av .shr a_, av .shr b] = some (Res.res y) := specP_eq (X := TSession × TSession × Unit) (F := fun x => spec_EqualSession x.1 x.2.1) (x := (a_, b, ())) h
noncomputable def g15 : Cfg := { P := Try.prog, take := [], keep := [((15, 4), { hd := [2, 3, 5], bx := [], ex := [], rt := [4] })], gho := [], ctx := [(58, C58), (59, C59)] }
@[simp] theorem g15_P : g15.P = Try.prog := rfl
@[simp] theorem g15_t : g15.take = [] := rfl
@[simp] theorem g15_g : g15.gho = [] := rfl
@[simp] theorem g15_58 : lookN 58 g15.ctx = some C58 := rfl
@[simp] theorem g15_59 : lookN 59 g15.ctx = some C59 := rfl
set_option maxRecDepth 100000 in
theorem w15 {a_ b} {y} (hp : spec_EqualSession a_ b = some y) : ∃ m, callo g15 0 15 [av .shr a_, av .shr b] mem0 = some (Res.res y, m) := by
  refine start_fn (Try.f15.body.getD .skip) [.tmp 4] rfl rfl Try.func15 (by kernel_rfl) (by kernel_rfl) (by simp [Try.ntmps15]) rfl ?_
  unfold spec_EqualSession at hp
  obtain ⟨y_1, h_2, hp⟩ := bind_some hp
  have c_3 := C58_eq h_2
  simp at c_3
  simp [Try.f15, c_3]
  rcases cond_cases hp with ⟨h_4, hp⟩ | ⟨h_4, hp⟩
  · try simp at h_4
    try simp [h_4]
    rcases cond_cases hp with ⟨h_5, hp⟩ | ⟨h_5, hp⟩
    · try simp at h_5
      cases hp
      simp [Goal, FnEnd, h_4, h_5]
    · try simp at h_5
      try simp [h_4, h_5]
      obtain ⟨r_32, h_33, hp⟩ := bind_some hp
      obtain ⟨I_8, I_8_⟩ : ∃ I : Int → St → Prop, I = (fun (s_6 : Int) (σ : St) => σ.env 2 = .one (.ptr (1, 2) 0) ∧ σ.env 3 = .one (.ptr (1, 3) 0) ∧ σ.env 5 = .one (.s (.int .i64 s_6)) ∧ σ.mem (1, 2) = some [(.l .shr a_.prog.vars.length (encL a_.prog.vars)), (.s (.int .i64 a_.prog.points)), (.l .shr a_.prog.edges.length (encL a_.prog.edges)), (.l .shr a_.start.length (encL a_.start))] ∧ σ.mem (1, 3) = some [(.l .shr b.prog.vars.length (encL b.prog.vars)), (.s (.int .i64 b.prog.points)), (.l .shr b.prog.edges.length (encL b.prog.edges)), (.l .shr b.start.length (encL b.start))] ∧ NoBox [(1, 2), (1, 3)] σ.mem) := ⟨_, rfl⟩
      obtain ⟨X_9, X_9_⟩ : ∃ X : ((Unit) ⊕ (Unit)) → Out → Prop, X = (fun (r_32 : (Unit) ⊕ (Unit)) (out : Out) => Sum.elim (fun r_32 => ∃ σ : St, out = .ret σ ∧ σ.env 4 = .one (.s (.bool false)) ∧ σ.mem (1, 2) = some [(.l .shr a_.prog.vars.length (encL a_.prog.vars)), (.s (.int .i64 a_.prog.points)), (.l .shr a_.prog.edges.length (encL a_.prog.edges)), (.l .shr a_.start.length (encL a_.start))] ∧ σ.mem (1, 3) = some [(.l .shr b.prog.vars.length (encL b.prog.vars)), (.s (.int .i64 b.prog.points)), (.l .shr b.prog.edges.length (encL b.prog.edges)), (.l .shr b.start.length (encL b.start))] ∧ NoBox [(1, 2), (1, 3)] σ.mem) (fun r_32 => ∃ σ : St, out = .exit 0 σ ∧ σ.mem (1, 2) = some [(.l .shr a_.prog.vars.length (encL a_.prog.vars)), (.s (.int .i64 a_.prog.points)), (.l .shr a_.prog.edges.length (encL a_.prog.edges)), (.l .shr a_.start.length (encL a_.start))] ∧ σ.mem (1, 3) = some [(.l .shr b.prog.vars.length (encL b.prog.vars)), (.s (.int .i64 b.prog.points)), (.l .shr b.prog.edges.length (encL b.prog.edges)), (.l .shr b.start.length (encL b.start))] ∧ NoBox [(1, 2), (1, 3)] σ.mem) r_32) := ⟨_, rfl⟩
      refine loopP ({ hd := [2, 3, 5], bx := [], ex := [], rt := [4] }) I_8 X_9 h_33 (by exact rfl) ?_ ?_ ?_
      · rw [I_8_]
        exact ⟨by simp [restrict_env, h_4, h_5], by simp [restrict_env, h_4, h_5], by simp [restrict_env, h_4, h_5], by simp [restrict_mem, h_4, h_5], by simp [restrict_mem, h_4, h_5], NoBox.restrict (by intro k hk hb; simp at hk hb; simp [hk, hb, h_4, h_5])⟩
      · intro s_6 σ_10 a_7 hI hp
        rw [I_8_] at hI
        obtain ⟨q_11, q_12, q_13, q_14, q_15, hn_16⟩ := hI
        try simp [h_4, h_5, q_11, q_12, q_13, q_14, q_15]
        rcases cond_cases hp with ⟨h_17, hp⟩ | ⟨h_17, hp⟩
        · try simp at h_17
          obtain ⟨e_18, h_19, hp⟩ := bind_some hp
          have b_20 := at_lo h_19
          have b_21 := at_hi h_19
          try simp at b_20
          try simp at b_21
          have c_22 := seg_at' h_19 0 2 (by decide) (ds := [.sl e_18.vars.length (encL e_18.vars), .sl e_18.next.length (encL e_18.next)]) rfl
          try simp at c_22
          obtain ⟨e_23, h_24, hp⟩ := bind_some hp
          have b_25 := at_lo h_24
          have b_26 := at_hi h_24
          try simp at b_25
          try simp at b_26
          have c_27 := seg_at' h_24 0 2 (by decide) (ds := [.sl e_23.vars.length (encL e_23.vars), .sl e_23.next.length (encL e_23.next)]) rfl
          try simp at c_27
          obtain ⟨y_28, h_29, hp⟩ := bind_some hp
          have c_30 := C59_eq h_29
          simp at c_30
          try simp [h_4, h_5, q_11, q_12, q_13, q_14, q_15, h_17, b_20, b_21, c_22, b_25, b_26, c_27, c_30]
          rcases cond_cases hp with ⟨h_31, hp⟩ | ⟨h_31, hp⟩
          · try simp at h_31
            cases hp
            try simp [h_4, h_5, q_11, q_12, q_13, q_14, q_15, h_17, h_31]
            refine goal_next ?_
            rw [I_8_]
            exact ⟨by simp [restrict_env, h_4, h_5, q_11, q_12, q_13, q_14, q_15, h_17, h_31], by simp [restrict_env, h_4, h_5, q_11, q_12, q_13, q_14, q_15, h_17, h_31], by simp [restrict_env, h_4, h_5, q_11, q_12, q_13, q_14, q_15, h_17, h_31], by simp [restrict_mem, h_4, h_5, q_11, q_12, q_13, q_14, q_15, h_17, h_31], by simp [restrict_mem, h_4, h_5, q_11, q_12, q_13, q_14, q_15, h_17, h_31], NoBox.restrict (by intro k hk hb; simp at hk hb; simp [hk, hb, h_4, h_5, q_11, q_12, q_13, q_14, q_15, h_17, h_31, hn_16 k (by simp [hk, hb])])⟩
          · try simp at h_31
            cases hp
            try simp [h_4, h_5, q_11, q_12, q_13, q_14, q_15, h_17, h_31]
            refine goal_outR ?_
            rw [X_9_]
            exact ⟨_, rfl, by simp [restrict_env, h_4, h_5, q_11, q_12, q_13, q_14, q_15, h_17, h_31], by simp [restrict_mem, h_4, h_5, q_11, q_12, q_13, q_14, q_15, h_17, h_31], by simp [restrict_mem, h_4, h_5, q_11, q_12, q_13, q_14, q_15, h_17, h_31], NoBox.restrict (by intro k hk hb; simp at hk hb; simp [hk, hb, h_4, h_5, q_11, q_12, q_13, q_14, q_15, h_17, h_31, hn_16 k (by simp [hk, hb])])⟩
        · try simp at h_17
          cases hp
          try simp [h_4, h_5, q_11, q_12, q_13, q_14, q_15, h_17]
          refine goal_outX ?_
          rw [X_9_]
          exact ⟨_, rfl, by simp [restrict_mem, h_4, h_5, q_11, q_12, q_13, q_14, q_15, h_17], by simp [restrict_mem, h_4, h_5, q_11, q_12, q_13, q_14, q_15, h_17], NoBox.restrict (by intro k hk hb; simp at hk hb; simp [hk, hb, h_4, h_5, q_11, q_12, q_13, q_14, q_15, h_17, hn_16 k (by simp [hk, hb])])⟩
      · intro out hX
        rw [X_9_] at hX
        rcases r_32 with r_32 | r_32
        · simp only [Sum.elim_inl, Sum.elim_inr] at hX hp
          obtain ⟨σ_34, rfl, q_35, q_36, q_37, hn_38⟩ := hX
          cases hp
          simp [Goal, FnEnd, h_4, h_5, q_35, q_36, q_37]
        · simp only [Sum.elim_inl, Sum.elim_inr] at hX hp
          obtain ⟨σ_39, rfl, q_40, q_41, hn_42⟩ := hX
          cases hp
          simp [Goal, FnEnd, h_4, h_5, q_40, q_41]
  · try simp at h_4
    cases hp
    simp [Goal, FnEnd, h_4]
theorem pc15 : PC Try.prog 15 C15 := pc_of (g := g15) (ctxOK_of [(58, C58), (59, C59)] rfl ⟨pc58, pc59, trivial⟩) ⟨Try.f15, Try.func15, by kernel_rfl, by kernel_rfl⟩ fun x y h => w15 h

noncomputable def C116 : List AV → Option AV := specP (X := (List ByteArray) × (List ByteArray) × Unit) fun x => slices_Equal_string x.1 x.2.1
theorem C116_eq {s1 s2} {y} (h : slices_Equal_string s1 s2 = some y) : C116 [av .shr s1, av .shr s2] = some (Res.res y) := specP_eq (X := (List ByteArray) × (List ByteArray) × Unit) (F := fun x => slices_Equal_string x.1 x.2.1) (x := (s1, s2, ())) h
noncomputable def g116 : Cfg := { P := Try.prog, take := [], keep := [((116, 4), { hd := [0, 1, 12, 13], bx := [], ex := [], rt := [4] })], gho := [], ctx := [] }
@[simp] theorem g116_P : g116.P = Try.prog := rfl
@[simp] theorem g116_t : g116.take = [] := rfl
@[simp] theorem g116_g : g116.gho = [] := rfl
set_option maxRecDepth 100000 in
theorem w116 {s1 s2} {y} (hp : slices_Equal_string s1 s2 = some y) : ∃ m, callo g116 0 116 [av .shr s1, av .shr s2] mem0 = some (Res.res y, m) := by
  refine start_fn (Try.f116.body.getD .skip) [.tmp 4] rfl rfl Try.func116 (by kernel_rfl) (by kernel_rfl) (by simp [Try.ntmps116]) rfl ?_
  unfold slices_Equal_string at hp
  simp [Try.f116]
  rcases cond_cases hp with ⟨h_1, hp⟩ | ⟨h_1, hp⟩
  · try simp at h_1
    cases hp
    simp [Goal, FnEnd, h_1]
  · try simp at h_1
    try simp [h_1]
    obtain ⟨r_24, h_25, hp⟩ := bind_some hp
    obtain ⟨I_4, I_4_⟩ : ∃ I : Int → St → Prop, I = (fun (s_2 : Int) (σ : St) => σ.env 0 = .one (.l .shr s1.length (encL s1)) ∧ σ.env 1 = .one (.l .shr s2.length (encL s2)) ∧ σ.env 12 = .one (.s (.int .i64 (s1.length : Int))) ∧ σ.env 13 = .one (.s (.int .i64 s_2)) ∧ σ.mem = mem0) := ⟨_, rfl⟩
    obtain ⟨X_5, X_5_⟩ : ∃ X : ((Unit) ⊕ (Unit)) → Out → Prop, X = (fun (r_24 : (Unit) ⊕ (Unit)) (out : Out) => Sum.elim (fun r_24 => ∃ σ : St, out = .ret σ ∧ σ.env 4 = .one (.s (.bool false)) ∧ σ.mem = mem0) (fun r_24 => ∃ σ : St, out = .exit 0 σ ∧ σ.mem = mem0) r_24) := ⟨_, rfl⟩
    refine loopP ({ hd := [0, 1, 12, 13], bx := [], ex := [], rt := [4] }) I_4 X_5 h_25 (by exact rfl) ?_ ?_ ?_
    · rw [I_4_]
      exact ⟨by simp [restrict_env, h_1], by simp [restrict_env, h_1], by simp [restrict_env, h_1], by simp [restrict_env, h_1], by simp [restrict_mem, h_1]⟩
    · intro s_2 σ_6 a_3 hI hp
      rw [I_4_] at hI
      obtain ⟨q_7, q_8, q_9, q_10, q_11⟩ := hI
      try simp [h_1, q_7, q_8, q_9, q_10, q_11]
      rcases cond_cases hp with ⟨h_12, hp⟩ | ⟨h_12, hp⟩
      · try simp at h_12
        obtain ⟨e_13, h_14, hp⟩ := bind_some hp
        have b_15 := at_lo h_14
        have b_16 := at_hi h_14
        try simp at b_15
        try simp at b_16
        have c_17 := seg_at' h_14 0 1 (by decide) (ds := [.sc (.string e_13)]) rfl
        try simp at c_17
        obtain ⟨e_18, h_19, hp⟩ := bind_some hp
        have b_20 := at_lo h_19
        have b_21 := at_hi h_19
        try simp at b_20
        try simp at b_21
        have c_22 := seg_at' h_19 0 1 (by decide) (ds := [.sc (.string e_18)]) rfl
        try simp at c_22
        try simp [h_1, q_7, q_8, q_9, q_10, q_11, h_12, b_15, b_16, c_17, b_20, b_21, c_22]
        rcases cond_cases hp with ⟨h_23, hp⟩ | ⟨h_23, hp⟩
        · try simp at h_23
          cases hp
          try simp [h_1, q_7, q_8, q_9, q_10, q_11, h_12, h_23]
          refine goal_outR ?_
          rw [X_5_]
          exact ⟨_, rfl, by simp [restrict_env, h_1, q_7, q_8, q_9, q_10, q_11, h_12, h_23], by simp [restrict_mem, h_1, q_7, q_8, q_9, q_10, q_11, h_12, h_23]⟩
        · try simp at h_23
          cases hp
          try simp [h_1, q_7, q_8, q_9, q_10, q_11, h_12, h_23]
          refine goal_next ?_
          rw [I_4_]
          exact ⟨by simp [restrict_env, h_1, q_7, q_8, q_9, q_10, q_11, h_12, h_23], by simp [restrict_env, h_1, q_7, q_8, q_9, q_10, q_11, h_12, h_23], by simp [restrict_env, h_1, q_7, q_8, q_9, q_10, q_11, h_12, h_23], by simp [restrict_env, h_1, q_7, q_8, q_9, q_10, q_11, h_12, h_23], by simp [restrict_mem, h_1, q_7, q_8, q_9, q_10, q_11, h_12, h_23]⟩
      · try simp at h_12
        cases hp
        try simp [h_1, q_7, q_8, q_9, q_10, q_11, h_12]
        refine goal_outX ?_
        rw [X_5_]
        exact ⟨_, rfl, by simp [restrict_mem, h_1, q_7, q_8, q_9, q_10, q_11, h_12]⟩
    · intro out hX
      rw [X_5_] at hX
      rcases r_24 with r_24 | r_24
      · simp only [Sum.elim_inl, Sum.elim_inr] at hX hp
        obtain ⟨σ_26, rfl, q_27, q_28⟩ := hX
        cases hp
        simp [Goal, FnEnd, h_1, q_27, q_28]
      · simp only [Sum.elim_inl, Sum.elim_inr] at hX hp
        obtain ⟨σ_29, rfl, q_30⟩ := hX
        cases hp
        simp [Goal, FnEnd, h_1, q_30]
theorem pc116 : PC Try.prog 116 C116 := pc_of (g := g116) (fun f F h => by cases h) ⟨Try.f116, Try.func116, by kernel_rfl, by kernel_rfl⟩ fun x y h => w116 h

noncomputable def C117 : List AV → Option AV := specP (X := (List TEdge) × (List TEdge) × Unit) fun x => slices_Equal_Edge x.1 x.2.1
theorem C117_eq {s1 s2} {y} (h : slices_Equal_Edge s1 s2 = some y) : C117 [av .shr s1, av .shr s2] = some (Res.res y) := specP_eq (X := (List TEdge) × (List TEdge) × Unit) (F := fun x => slices_Equal_Edge x.1 x.2.1) (x := (s1, s2, ())) h
noncomputable def g117 : Cfg := { P := Try.prog, take := [], keep := [((117, 4), { hd := [0, 1, 12, 13], bx := [], ex := [], rt := [4] })], gho := [], ctx := [] }
@[simp] theorem g117_P : g117.P = Try.prog := rfl
@[simp] theorem g117_t : g117.take = [] := rfl
@[simp] theorem g117_g : g117.gho = [] := rfl
set_option maxRecDepth 100000 in
theorem w117 {s1 s2} {y} (hp : slices_Equal_Edge s1 s2 = some y) : ∃ m, callo g117 0 117 [av .shr s1, av .shr s2] mem0 = some (Res.res y, m) := by
  refine start_fn (Try.f117.body.getD .skip) [.tmp 4] rfl rfl Try.func117 (by kernel_rfl) (by kernel_rfl) (by simp [Try.ntmps117]) rfl ?_
  unfold slices_Equal_Edge at hp
  simp [Try.f117]
  rcases cond_cases hp with ⟨h_1, hp⟩ | ⟨h_1, hp⟩
  · try simp at h_1
    cases hp
    simp [Goal, FnEnd, h_1]
  · try simp at h_1
    try simp [h_1]
    obtain ⟨r_25, h_26, hp⟩ := bind_some hp
    obtain ⟨I_4, I_4_⟩ : ∃ I : Int → St → Prop, I = (fun (s_2 : Int) (σ : St) => σ.env 0 = .one (.l .shr s1.length (encL s1)) ∧ σ.env 1 = .one (.l .shr s2.length (encL s2)) ∧ σ.env 12 = .one (.s (.int .i64 (s1.length : Int))) ∧ σ.env 13 = .one (.s (.int .i64 s_2)) ∧ σ.mem = mem0) := ⟨_, rfl⟩
    obtain ⟨X_5, X_5_⟩ : ∃ X : ((Unit) ⊕ (Unit)) → Out → Prop, X = (fun (r_25 : (Unit) ⊕ (Unit)) (out : Out) => Sum.elim (fun r_25 => ∃ σ : St, out = .ret σ ∧ σ.env 4 = .one (.s (.bool false)) ∧ σ.mem = mem0) (fun r_25 => ∃ σ : St, out = .exit 0 σ ∧ σ.mem = mem0) r_25) := ⟨_, rfl⟩
    refine loopP ({ hd := [0, 1, 12, 13], bx := [], ex := [], rt := [4] }) I_4 X_5 h_26 (by exact rfl) ?_ ?_ ?_
    · rw [I_4_]
      exact ⟨by simp [restrict_env, h_1], by simp [restrict_env, h_1], by simp [restrict_env, h_1], by simp [restrict_env, h_1], by simp [restrict_mem, h_1]⟩
    · intro s_2 σ_6 a_3 hI hp
      rw [I_4_] at hI
      obtain ⟨q_7, q_8, q_9, q_10, q_11⟩ := hI
      try simp [h_1, q_7, q_8, q_9, q_10, q_11]
      rcases cond_cases hp with ⟨h_12, hp⟩ | ⟨h_12, hp⟩
      · try simp at h_12
        obtain ⟨e_13, h_14, hp⟩ := bind_some hp
        have b_15 := at_lo h_14
        have b_16 := at_hi h_14
        try simp at b_15
        try simp at b_16
        have c_17 := seg_at' h_14 0 5 (by decide) (ds := [.sc (.int .i64 e_13.from_), .sc (.int .i64 e_13.to_), .sc (.int .i64 e_13.stmt.kind), .sc (.string e_13.stmt.a), .sc (.string e_13.stmt.b)]) rfl
        try simp at c_17
        obtain ⟨e_18, h_19, hp⟩ := bind_some hp
        have b_20 := at_lo h_19
        have b_21 := at_hi h_19
        try simp at b_20
        try simp at b_21
        have c_22 := seg_at' h_19 0 5 (by decide) (ds := [.sc (.int .i64 e_18.from_), .sc (.int .i64 e_18.to_), .sc (.int .i64 e_18.stmt.kind), .sc (.string e_18.stmt.a), .sc (.string e_18.stmt.b)]) rfl
        try simp at c_22
        have c_23 := fun x y => ne_134 x y e_13 e_18
        try simp at c_23
        try simp [h_1, q_7, q_8, q_9, q_10, q_11, h_12, b_15, b_16, c_17, b_20, b_21, c_22, c_23]
        rcases cond_cases hp with ⟨h_24, hp⟩ | ⟨h_24, hp⟩
        · try simp at h_24
          cases hp
          try simp [h_1, q_7, q_8, q_9, q_10, q_11, h_12, h_24]
          refine goal_outR ?_
          rw [X_5_]
          exact ⟨_, rfl, by simp [restrict_env, h_1, q_7, q_8, q_9, q_10, q_11, h_12, h_24], by simp [restrict_mem, h_1, q_7, q_8, q_9, q_10, q_11, h_12, h_24]⟩
        · try simp at h_24
          cases hp
          try simp [h_1, q_7, q_8, q_9, q_10, q_11, h_12, h_24]
          refine goal_next ?_
          rw [I_4_]
          exact ⟨by simp [restrict_env, h_1, q_7, q_8, q_9, q_10, q_11, h_12, h_24], by simp [restrict_env, h_1, q_7, q_8, q_9, q_10, q_11, h_12, h_24], by simp [restrict_env, h_1, q_7, q_8, q_9, q_10, q_11, h_12, h_24], by simp [restrict_env, h_1, q_7, q_8, q_9, q_10, q_11, h_12, h_24], by simp [restrict_mem, h_1, q_7, q_8, q_9, q_10, q_11, h_12, h_24]⟩
      · try simp at h_12
        cases hp
        try simp [h_1, q_7, q_8, q_9, q_10, q_11, h_12]
        refine goal_outX ?_
        rw [X_5_]
        exact ⟨_, rfl, by simp [restrict_mem, h_1, q_7, q_8, q_9, q_10, q_11, h_12]⟩
    · intro out hX
      rw [X_5_] at hX
      rcases r_25 with r_25 | r_25
      · simp only [Sum.elim_inl, Sum.elim_inr] at hX hp
        obtain ⟨σ_27, rfl, q_28, q_29⟩ := hX
        cases hp
        simp [Goal, FnEnd, h_1, q_28, q_29]
      · simp only [Sum.elim_inl, Sum.elim_inr] at hX hp
        obtain ⟨σ_30, rfl, q_31⟩ := hX
        cases hp
        simp [Goal, FnEnd, h_1, q_31]
theorem pc117 : PC Try.prog 117 C117 := pc_of (g := g117) (fun f F h => by cases h) ⟨Try.f117, Try.func117, by kernel_rfl, by kernel_rfl⟩ fun x y h => w117 h

noncomputable def C62 : List AV → Option AV := specP (X := TProgram × TProgram × Unit) fun x => impl_EqualProgram x.1 x.2.1
theorem C62_eq {a_ b} {y} (h : impl_EqualProgram a_ b = some y) : C62 [av .shr a_, av .shr b] = some (Res.res y) := specP_eq (X := TProgram × TProgram × Unit) (F := fun x => impl_EqualProgram x.1 x.2.1) (x := (a_, b, ())) h
noncomputable def g62 : Cfg := { P := Try.prog, take := [], keep := [], gho := [], ctx := [(116, C116), (117, C117)] }
@[simp] theorem g62_P : g62.P = Try.prog := rfl
@[simp] theorem g62_t : g62.take = [] := rfl
@[simp] theorem g62_g : g62.gho = [] := rfl
@[simp] theorem g62_116 : lookN 116 g62.ctx = some C116 := rfl
@[simp] theorem g62_117 : lookN 117 g62.ctx = some C117 := rfl
set_option maxRecDepth 100000 in
theorem w62 {a_ b} {y} (hp : impl_EqualProgram a_ b = some y) : ∃ m, callo g62 0 62 [av .shr a_, av .shr b] mem0 = some (Res.res y, m) := by
  refine start_fn (Try.f62.body.getD .skip) [.tmp 4] rfl rfl Try.func62 (by kernel_rfl) (by kernel_rfl) (by simp [Try.ntmps62]) rfl ?_
  unfold impl_EqualProgram at hp
  obtain ⟨y_1, h_2, hp⟩ := bind_some hp
  have c_3 := C116_eq h_2
  simp at c_3
  simp [Try.f62, c_3]
  rcases cond_cases hp with ⟨h_4, hp⟩ | ⟨h_4, hp⟩
  · try simp at h_4
    try simp [h_4]
    rcases cond_cases hp with ⟨h_5, hp⟩ | ⟨h_5, hp⟩
    · try simp at h_5
      obtain ⟨y_6, h_7, hp⟩ := bind_some hp
      have c_8 := C117_eq h_7
      simp at c_8
      cases hp
      simp [Goal, FnEnd, h_4, h_5, c_8]
    · try simp at h_5
      cases hp
      simp [Goal, FnEnd, h_4, h_5]
  · try simp at h_4
    cases hp
    simp [Goal, FnEnd, h_4]
theorem pc62 : PC Try.prog 62 C62 := pc_of (g := g62) (ctxOK_of [(116, C116), (117, C117)] rfl ⟨pc116, pc117, trivial⟩) ⟨Try.f62, Try.func62, by kernel_rfl, by kernel_rfl⟩ fun x y h => w62 h

abbrev G63 (g : Cfg) : Prop := Has Try.prog g 63 Try.f63 [] [(4, { hd := [1, 2, 15, 16, 17], bx := [8, 9], ex := [], rt := [6] })] []
set_option maxRecDepth 100000 in
theorem wI63 {g : Cfg} (G : G63 g) {d : Nat} {mem : Mem} (hT : Tight d mem) {s1 : (List THeap)} {s2 : (List THeap)} {eq : (THeap → THeap → Option (Bool))} {m_0 : Md} (hm_0 : LentM m_0) {m_1 : Md} (hm_1 : LentM m_1) {fk_eq : Nat} {caps_eq : List (Key × Nat)} (hl_eq : ∀ c ∈ caps_eq, c.1.1 ≤ d) (hc_eq : Clo g d mem fk_eq caps_eq fun x : THeap × THeap × Unit => eq x.1 x.2.1) {y} (hp : slices_EqualFunc_Heapimpl_Heap_impl_Heap_impl_Heap_ s1 s2 eq = some y) : callo g d 63 [av m_0 s1, av m_1 s2, .one (.fn fk_eq caps_eq)] mem = some (Res.res y, mem) := by
  have gP := G.P; have gt := G.tk; have gg := G.gh; have hT2 : memKill (fun k => decide (d < k.1)) mem = mem := hT
  have k_4 := G.kp (4, { hd := [1, 2, 15, 16, 17], bx := [8, 9], ex := [], rt := [6] }) (by simp)
  refine start_in (Try.f63.body.getD .skip) [.tmp 6] G Try.func63 (by kernel_rfl) (by simp [Try.ntmps63]) rfl ?_
  unfold slices_EqualFunc_Heapimpl_Heap_impl_Heap_impl_Heap_ at hp
  simp [Try.f63, gP, gt, gg, hm_0.copy, hm_0.elem, hm_1.copy, hm_1.elem]
  rcases cond_cases hp with ⟨h_1, hp⟩ | ⟨h_1, hp⟩
  · try simp at h_1
    cases hp
    simp [Goal, FnEndI, memKill_hi, gP, gt, gg, hm_0.copy, hm_0.elem, hm_1.copy, hm_1.elem, h_1, hT2]
  · try simp at h_1
    try simp [gP, gt, gg, hm_0.copy, hm_0.elem, hm_1.copy, hm_1.elem, h_1]
    obtain ⟨r_31, h_32, hp⟩ := bind_some hp
    obtain ⟨I_4, I_4_⟩ : ∃ I : Int → St → Prop, I = (fun (s_2 : Int) (σ : St) => σ.env 1 = .one (.l m_1 s2.length (encL s2)) ∧ σ.env 2 = .one (.fn fk_eq caps_eq) ∧ σ.env 15 = .one (.l m_0 s1.length (encL s1)) ∧ σ.env 16 = .one (.s (.int .i64 (s1.length : Int))) ∧ σ.env 17 = .one (.s (.int .i64 s_2)) ∧ Tight (d + 1) σ.mem ∧ Agree d mem σ.mem ∧ NoBoxD d [] σ.mem) := ⟨_, rfl⟩
    obtain ⟨X_5, X_5_⟩ : ∃ X : ((Unit) ⊕ (Unit)) → Out → Prop, X = (fun (r_31 : (Unit) ⊕ (Unit)) (out : Out) => Sum.elim (fun r_31 => ∃ σ : St, out = .ret σ ∧ σ.env 6 = .one (.s (.bool false)) ∧ Tight (d + 1) σ.mem ∧ Agree d mem σ.mem ∧ NoBoxD d [] σ.mem) (fun r_31 => ∃ σ : St, out = .exit 0 σ ∧ Tight (d + 1) σ.mem ∧ Agree d mem σ.mem ∧ NoBoxD d [] σ.mem) r_31) := ⟨_, rfl⟩
    refine loopP ({ hd := [1, 2, 15, 16, 17], bx := [8, 9], ex := [], rt := [6] }) I_4 X_5 h_32 (by exact k_4) ?_ ?_ ?_
    · rw [I_4_]
      exact ⟨by simp [restrict_env, gP, gt, gg, hm_0.copy, hm_0.elem, hm_1.copy, hm_1.elem, h_1], by simp [restrict_env, gP, gt, gg, hm_0.copy, hm_0.elem, hm_1.copy, hm_1.elem, h_1] <;> (intro x x1 x2 hx; have h0 := hl_eq _ hx; simp at h0; omega), by simp [restrict_env, gP, gt, gg, hm_0.copy, hm_0.elem, hm_1.copy, hm_1.elem, h_1], by simp [restrict_env, gP, gt, gg, hm_0.copy, hm_0.elem, hm_1.copy, hm_1.elem, h_1], by simp [restrict_env, gP, gt, gg, hm_0.copy, hm_0.elem, hm_1.copy, hm_1.elem, h_1], (by repeat (first | exact tight_mem0 _ | exact hT.up | exact hT | refine Tight.restrict ?_ | refine Tight.upd ?_ (by simp) (by simp))), (by repeat (first | exact fun k hk => rfl | refine Agree.restrict hT ?_ | refine Agree.upd ?_ (by simp))), NoBoxD.restrict (by intro k hd hk hb; simp at hk hb; simp [hk, hb, gP, gt, gg, hm_0.copy, hm_0.elem, hm_1.copy, hm_1.elem, h_1, hT.none hd])⟩
    · intro s_2 σ_6 a_3 hI hp
      rw [I_4_] at hI
      obtain ⟨q_7, q_8, q_9, q_10, q_11, ht_12, ha_13, hn_14⟩ := hI
      try simp [gP, gt, gg, hm_0.copy, hm_0.elem, hm_1.copy, hm_1.elem, h_1, q_7, q_8, q_9, q_10, q_11]
      rcases cond_cases hp with ⟨h_15, hp⟩ | ⟨h_15, hp⟩
      · try simp at h_15
        obtain ⟨e_16, h_17, hp⟩ := bind_some hp
        have b_18 := at_lo h_17
        have b_19 := at_hi h_17
        try simp at b_18
        try simp at b_19
        have c_20 := seg_at' h_17 0 2 (by decide) (ds := [.sl e_16.vars.length (encL e_16.vars), .sl e_16.next.length (encL e_16.next)]) rfl
        try simp at c_20
        have n_21 := hn_14 (d + 1, 8) (by simp) (by simp)
        obtain ⟨e_22, h_23, hp⟩ := bind_some hp
        have b_24 := at_lo h_23
        have b_25 := at_hi h_23
        try simp at b_24
        try simp at b_25
        have c_26 := seg_at' h_23 0 2 (by decide) (ds := [.sl e_22.vars.length (encL e_22.vars), .sl e_22.next.length (encL e_22.next)]) rfl
        try simp at c_26
        have n_27 := hn_14 (d + 1, 9) (by simp) (by simp)
        obtain ⟨y_28, h_29, hp⟩ := bind_some hp
        try simp [gP, gt, gg, hm_0.copy, hm_0.elem, hm_1.copy, hm_1.elem, h_1, q_7, q_8, q_9, q_10, q_11, h_15, b_18, b_19, c_20, n_21, b_24, b_25, c_26, n_27]
        refine goal_call ([av m_0 e_16, av m_1 e_22] ++ capsAV caps_eq) (Res.res y_28) (by simp [capsAV, gP, gt, gg, hm_0.copy, hm_0.elem, hm_1.copy, hm_1.elem, h_1, q_7, q_8, q_9, q_10, q_11, h_15]) (hc_eq _ _ _ (e_16, e_22, ()) _ (Nat.le_succ d) (by repeat (first | exact ha_13 | exact fun k hk => rfl | refine Agree.upd ?_ (by simp))) (by repeat (first | exact ht_12 | exact tight_mem0 _ | exact hT.up | exact hT | (simp only [q_7, q_8, q_9, q_10, q_11]; done) | refine Tight.upd ?_ (by simp) (by simp))) ⟨_, _, hm_0, rfl, ⟨_, _, hm_1, rfl, rfl⟩⟩ h_29) ?_
        try simp [gP, gt, gg, hm_0.copy, hm_0.elem, hm_1.copy, hm_1.elem, h_1, q_7, q_8, q_9, q_10, q_11, h_15]
        rcases cond_cases hp with ⟨h_30, hp⟩ | ⟨h_30, hp⟩
        · try simp at h_30
          cases hp
          try simp [gP, gt, gg, hm_0.copy, hm_0.elem, hm_1.copy, hm_1.elem, h_1, q_7, q_8, q_9, q_10, q_11, h_15, h_30]
          refine goal_next ?_
          rw [I_4_]
          exact ⟨by simp [restrict_env, gP, gt, gg, hm_0.copy, hm_0.elem, hm_1.copy, hm_1.elem, h_1, q_7, q_8, q_9, q_10, q_11, h_15, h_30], by simp [restrict_env, gP, gt, gg, hm_0.copy, hm_0.elem, hm_1.copy, hm_1.elem, h_1, q_7, q_8, q_9, q_10, q_11, h_15, h_30] <;> (intro x x1 x2 hx; have h0 := hl_eq _ hx; simp at h0; omega), by simp [restrict_env, gP, gt, gg, hm_0.copy, hm_0.elem, hm_1.copy, hm_1.elem, h_1, q_7, q_8, q_9, q_10, q_11, h_15, h_30], by simp [restrict_env, gP, gt, gg, hm_0.copy, hm_0.elem, hm_1.copy, hm_1.elem, h_1, q_7, q_8, q_9, q_10, q_11, h_15, h_30], by simp [restrict_env, gP, gt, gg, hm_0.copy, hm_0.elem, hm_1.copy, hm_1.elem, h_1, q_7, q_8, q_9, q_10, q_11, h_15, h_30], (by repeat (first | exact ht_12 | exact tight_mem0 _ | exact hT.up | exact hT | refine Tight.restrict ?_ | refine Tight.upd ?_ (by simp) (by simp))), (by repeat (first | exact ha_13 | exact fun k hk => rfl | refine Agree.restrict hT ?_ | refine Agree.upd ?_ (by simp))), NoBoxD.restrict (by intro k hd hk hb; simp at hk hb; simp [hk, hb, gP, gt, gg, hm_0.copy, hm_0.elem, hm_1.copy, hm_1.elem, h_1, q_7, q_8, q_9, q_10, q_11, h_15, h_30, hn_14 k hd (by simp [hk, hb])])⟩
        · try simp at h_30
          cases hp
          try simp [gP, gt, gg, hm_0.copy, hm_0.elem, hm_1.copy, hm_1.elem, h_1, q_7, q_8, q_9, q_10, q_11, h_15, h_30]
          refine goal_outR ?_
          rw [X_5_]
          exact ⟨_, rfl, by simp [restrict_env, gP, gt, gg, hm_0.copy, hm_0.elem, hm_1.copy, hm_1.elem, h_1, q_7, q_8, q_9, q_10, q_11, h_15, h_30], (by repeat (first | exact ht_12 | exact tight_mem0 _ | exact hT.up | exact hT | refine Tight.restrict ?_ | refine Tight.upd ?_ (by simp) (by simp))), (by repeat (first | exact ha_13 | exact fun k hk => rfl | refine Agree.restrict hT ?_ | refine Agree.upd ?_ (by simp))), NoBoxD.restrict (by intro k hd hk hb; simp at hk hb; simp [hk, hb, gP, gt, gg, hm_0.copy, hm_0.elem, hm_1.copy, hm_1.elem, h_1, q_7, q_8, q_9, q_10, q_11, h_15, h_30, hn_14 k hd (by simp [hk, hb])])⟩
      · try simp at h_15
        cases hp
        try simp [gP, gt, gg, hm_0.copy, hm_0.elem, hm_1.copy, hm_1.elem, h_1, q_7, q_8, q_9, q_10, q_11, h_15]
        refine goal_outX ?_
        rw [X_5_]
        exact ⟨_, rfl, (by repeat (first | exact ht_12 | exact tight_mem0 _ | exact hT.up | exact hT | refine Tight.restrict ?_ | refine Tight.upd ?_ (by simp) (by simp))), (by repeat (first | exact ha_13 | exact fun k hk => rfl | refine Agree.restrict hT ?_ | refine Agree.upd ?_ (by simp))), NoBoxD.restrict (by intro k hd hk hb; simp at hk hb; simp [hk, hb, gP, gt, gg, hm_0.copy, hm_0.elem, hm_1.copy, hm_1.elem, h_1, q_7, q_8, q_9, q_10, q_11, h_15, hn_14 k hd (by simp [hk, hb])])⟩
    · intro out hX
      rw [X_5_] at hX
      rcases r_31 with r_31 | r_31
      · simp only [Sum.elim_inl, Sum.elim_inr] at hX hp
        obtain ⟨σ_33, rfl, q_34, ht_35, ha_36, hn_37⟩ := hX
        cases hp
        simp [Goal, FnEndI, memKill_hi, gP, gt, gg, hm_0.copy, hm_0.elem, hm_1.copy, hm_1.elem, h_1, q_34, kill_back ha_36 hT]
      · simp only [Sum.elim_inl, Sum.elim_inr] at hX hp
        obtain ⟨σ_38, rfl, ht_39, ha_40, hn_41⟩ := hX
        cases hp
        simp [Goal, FnEndI, memKill_hi, gP, gt, gg, hm_0.copy, hm_0.elem, hm_1.copy, hm_1.elem, h_1, kill_back ha_40 hT]

noncomputable def C118 : List AV → Option AV := specP (X := (List Int) × (List Int) × Unit) fun x => slices_Equal_int x.1 x.2.1
theorem C118_eq {s1 s2} {y} (h : slices_Equal_int s1 s2 = some y) : C118 [av .shr s1, av .shr s2] = some (Res.res y) := specP_eq (X := (List Int) × (List Int) × Unit) (F := fun x => slices_Equal_int x.1 x.2.1) (x := (s1, s2, ())) h
noncomputable def g118 : Cfg := { P := Try.prog, take := [], keep := [((118, 4), { hd := [0, 1, 12, 13], bx := [], ex := [], rt := [4] })], gho := [], ctx := [] }
@[simp] theorem g118_P : g118.P = Try.prog := rfl
@[simp] theorem g118_t : g118.take = [] := rfl
@[simp] theorem g118_g : g118.gho = [] := rfl
set_option maxRecDepth 100000 in
theorem w118 {s1 s2} {y} (hp : slices_Equal_int s1 s2 = some y) : ∃ m, callo g118 0 118 [av .shr s1, av .shr s2] mem0 = some (Res.res y, m) := by
  refine start_fn (Try.f118.body.getD .skip) [.tmp 4] rfl rfl Try.func118 (by kernel_rfl) (by kernel_rfl) (by simp [Try.ntmps118]) rfl ?_
  unfold slices_Equal_int at hp
  simp [Try.f118]
  rcases cond_cases hp with ⟨h_1, hp⟩ | ⟨h_1, hp⟩
  · try simp at h_1
    cases hp
    simp [Goal, FnEnd, h_1]
  · try simp at h_1
    try simp [h_1]
    obtain ⟨r_24, h_25, hp⟩ := bind_some hp
    obtain ⟨I_4, I_4_⟩ : ∃ I : Int → St → Prop, I = (fun (s_2 : Int) (σ : St) => σ.env 0 = .one (.l .shr s1.length (encL s1)) ∧ σ.env 1 = .one (.l .shr s2.length (encL s2)) ∧ σ.env 12 = .one (.s (.int .i64 (s1.length : Int))) ∧ σ.env 13 = .one (.s (.int .i64 s_2)) ∧ σ.mem = mem0) := ⟨_, rfl⟩
    obtain ⟨X_5, X_5_⟩ : ∃ X : ((Unit) ⊕ (Unit)) → Out → Prop, X = (fun (r_24 : (Unit) ⊕ (Unit)) (out : Out) => Sum.elim (fun r_24 => ∃ σ : St, out = .ret σ ∧ σ.env 4 = .one (.s (.bool false)) ∧ σ.mem = mem0) (fun r_24 => ∃ σ : St, out = .exit 0 σ ∧ σ.mem = mem0) r_24) := ⟨_, rfl⟩
    refine loopP ({ hd := [0, 1, 12, 13], bx := [], ex := [], rt := [4] }) I_4 X_5 h_25 (by exact rfl) ?_ ?_ ?_
    · rw [I_4_]
      exact ⟨by simp [restrict_env, h_1], by simp [restrict_env, h_1], by simp [restrict_env, h_1], by simp [restrict_env, h_1], by simp [restrict_mem, h_1]⟩
    · intro s_2 σ_6 a_3 hI hp
      rw [I_4_] at hI
      obtain ⟨q_7, q_8, q_9, q_10, q_11⟩ := hI
      try simp [h_1, q_7, q_8, q_9, q_10, q_11]
      rcases cond_cases hp with ⟨h_12, hp⟩ | ⟨h_12, hp⟩
      · try simp at h_12
        obtain ⟨e_13, h_14, hp⟩ := bind_some hp
        have b_15 := at_lo h_14
        have b_16 := at_hi h_14
        try simp at b_15
        try simp at b_16
        have c_17 := seg_at' h_14 0 1 (by decide) (ds := [.sc (.int .i64 e_13)]) rfl
        try simp at c_17
        obtain ⟨e_18, h_19, hp⟩ := bind_some hp
        have b_20 := at_lo h_19
        have b_21 := at_hi h_19
        try simp at b_20
        try simp at b_21
        have c_22 := seg_at' h_19 0 1 (by decide) (ds := [.sc (.int .i64 e_18)]) rfl
        try simp at c_22
        try simp [h_1, q_7, q_8, q_9, q_10, q_11, h_12, b_15, b_16, c_17, b_20, b_21, c_22]
        rcases cond_cases hp with ⟨h_23, hp⟩ | ⟨h_23, hp⟩
        · try simp at h_23
          cases hp
          try simp [h_1, q_7, q_8, q_9, q_10, q_11, h_12, h_23]
          refine goal_outR ?_
          rw [X_5_]
          exact ⟨_, rfl, by simp [restrict_env, h_1, q_7, q_8, q_9, q_10, q_11, h_12, h_23], by simp [restrict_mem, h_1, q_7, q_8, q_9, q_10, q_11, h_12, h_23]⟩
        · try simp at h_23
          cases hp
          try simp [h_1, q_7, q_8, q_9, q_10, q_11, h_12, h_23]
          refine goal_next ?_
          rw [I_4_]
          exact ⟨by simp [restrict_env, h_1, q_7, q_8, q_9, q_10, q_11, h_12, h_23], by simp [restrict_env, h_1, q_7, q_8, q_9, q_10, q_11, h_12, h_23], by simp [restrict_env, h_1, q_7, q_8, q_9, q_10, q_11, h_12, h_23], by simp [restrict_env, h_1, q_7, q_8, q_9, q_10, q_11, h_12, h_23], by simp [restrict_mem, h_1, q_7, q_8, q_9, q_10, q_11, h_12, h_23]⟩
      · try simp at h_12
        cases hp
        try simp [h_1, q_7, q_8, q_9, q_10, q_11, h_12]
        refine goal_outX ?_
        rw [X_5_]
        exact ⟨_, rfl, by simp [restrict_mem, h_1, q_7, q_8, q_9, q_10, q_11, h_12]⟩
    · intro out hX
      rw [X_5_] at hX
      rcases r_24 with r_24 | r_24
      · simp only [Sum.elim_inl, Sum.elim_inr] at hX hp
        obtain ⟨σ_26, rfl, q_27, q_28⟩ := hX
        cases hp
        simp [Goal, FnEnd, h_1, q_27, q_28]
      · simp only [Sum.elim_inl, Sum.elim_inr] at hX hp
        obtain ⟨σ_29, rfl, q_30⟩ := hX
        cases hp
        simp [Goal, FnEnd, h_1, q_30]
theorem pc118 : PC Try.prog 118 C118 := pc_of (g := g118) (fun f F h => by cases h) ⟨Try.f118, Try.func118, by kernel_rfl, by kernel_rfl⟩ fun x y h => w118 h

noncomputable def C64 : List AV → Option AV := specP (X := THeap × THeap × Unit) fun x => impl_EqualHeap x.1 x.2.1
theorem C64_eq {a_ b} {y} (h : impl_EqualHeap a_ b = some y) : C64 [av .shr a_, av .shr b] = some (Res.res y) := specP_eq (X := THeap × THeap × Unit) (F := fun x => impl_EqualHeap x.1 x.2.1) (x := (a_, b, ())) h
noncomputable def g64 : Cfg := { P := Try.prog, take := [], keep := [], gho := [], ctx := [(118, C118)] }
@[simp] theorem g64_P : g64.P = Try.prog := rfl
@[simp] theorem g64_t : g64.take = [] := rfl
@[simp] theorem g64_g : g64.gho = [] := rfl
@[simp] theorem g64_118 : lookN 118 g64.ctx = some C118 := rfl
set_option maxRecDepth 100000 in
theorem w64 {a_ b} {y} (hp : impl_EqualHeap a_ b = some y) : ∃ m, callo g64 0 64 [av .shr a_, av .shr b] mem0 = some (Res.res y, m) := by
  refine start_fn (Try.f64.body.getD .skip) [.tmp 4] rfl rfl Try.func64 (by kernel_rfl) (by kernel_rfl) (by simp [Try.ntmps64]) rfl ?_
  unfold impl_EqualHeap at hp
  obtain ⟨y_1, h_2, hp⟩ := bind_some hp
  have c_3 := C118_eq h_2
  simp at c_3
  simp [Try.f64, c_3]
  rcases cond_cases hp with ⟨h_4, hp⟩ | ⟨h_4, hp⟩
  · try simp at h_4
    obtain ⟨y_5, h_6, hp⟩ := bind_some hp
    have c_7 := C118_eq h_6
    simp at c_7
    cases hp
    simp [Goal, FnEnd, h_4, c_7]
  · try simp at h_4
    cases hp
    simp [Goal, FnEnd, h_4]
theorem pc64 : PC Try.prog 64 C64 := pc_of (g := g64) (ctxOK_of [(118, C118)] rfl ⟨pc118, trivial⟩) ⟨Try.f64, Try.func64, by kernel_rfl, by kernel_rfl⟩ fun x y h => w64 h

noncomputable def C17 : List AV → Option AV := specP (X := TSession × TSession × Unit) fun x => impl_EqualSession x.1 x.2.1
theorem C17_eq {a_ b} {y} (h : impl_EqualSession a_ b = some y) : C17 [av .shr a_, av .shr b] = some (Res.res y) := specP_eq (X := TSession × TSession × Unit) (F := fun x => impl_EqualSession x.1 x.2.1) (x := (a_, b, ())) h
noncomputable def g17 : Cfg := { P := Try.prog, take := [], keep := [((63, 4), { hd := [1, 2, 15, 16, 17], bx := [8, 9], ex := [], rt := [6] })], gho := [], ctx := [(62, C62), (64, C64)] }
@[simp] theorem g17_P : g17.P = Try.prog := rfl
@[simp] theorem g17_t : g17.take = [] := rfl
@[simp] theorem g17_g : g17.gho = [] := rfl
@[simp] theorem g17_62 : lookN 62 g17.ctx = some C62 := rfl
@[simp] theorem g17_64 : lookN 64 g17.ctx = some C64 := rfl
@[simp] theorem g17_63 : lookN 63 g17.ctx = none := rfl
set_option maxRecDepth 100000 in
theorem w17 {a_ b} {y} (hp : impl_EqualSession a_ b = some y) : ∃ m, callo g17 0 17 [av .shr a_, av .shr b] mem0 = some (Res.res y, m) := by
  have G_63 : G63 g17 := ⟨rfl, by kernel_rfl, rfl, fun t => by simp, fun i => by simp [lookK], by simp [g17, lookK], by simp⟩
  refine start_fn (Try.f17.body.getD .skip) [.tmp 4] rfl rfl Try.func17 (by kernel_rfl) (by kernel_rfl) (by simp [Try.ntmps17]) rfl ?_
  unfold impl_EqualSession at hp
  obtain ⟨y_1, h_2, hp⟩ := bind_some hp
  have c_3 := C62_eq h_2
  simp at c_3
  simp [Try.f17, c_3]
  rcases cond_cases hp with ⟨h_4, hp⟩ | ⟨h_4, hp⟩
  · try simp at h_4
    obtain ⟨y_5, h_6, hp⟩ := bind_some hp
    try simp [h_4]
    refine goal_call [av .shr a_.start, av .shr b.start, .one (.fn 64 [])] (Res.res y_5) (by simp [h_4]) (wI63 G_63 (by repeat (first | exact tight_mem0 _ | exact hT.up | exact hT | (simp only [true_and]; done) | refine Tight.upd ?_ (by simp) (by simp))) (.inl rfl) (.inl rfl) (by simp) (clo_ctx (by rfl)) h_6) ?_
    cases hp
    simp [Goal, FnEnd, h_4]
  · try simp at h_4
    cases hp
    simp [Goal, FnEnd, h_4]
theorem pc17 : PC Try.prog 17 C17 := pc_of (g := g17) (ctxOK_of [(62, C62), (64, C64)] rfl ⟨pc62, pc64, trivial⟩) ⟨Try.f17, Try.func17, by kernel_rfl, by kernel_rfl⟩ fun x y h => w17 h

noncomputable def C119 : List AV → Option AV := specP (X := (List ByteArray) × (List ByteArray) × Unit) fun x => laws_eqStringS x.1 x.2.1
theorem C119_eq {a_ b} {y} (h : laws_eqStringS a_ b = some y) : C119 [av .shr a_, av .shr b] = some (Res.res y) := specP_eq (X := (List ByteArray) × (List ByteArray) × Unit) (F := fun x => laws_eqStringS x.1 x.2.1) (x := (a_, b, ())) h
noncomputable def g119 : Cfg := { P := Try.prog, take := [], keep := [((119, 4), { hd := [0, 1, 5], bx := [], ex := [], rt := [4] })], gho := [], ctx := [] }
@[simp] theorem g119_P : g119.P = Try.prog := rfl
@[simp] theorem g119_t : g119.take = [] := rfl
@[simp] theorem g119_g : g119.gho = [] := rfl
set_option maxRecDepth 100000 in
theorem w119 {a_ b} {y} (hp : laws_eqStringS a_ b = some y) : ∃ m, callo g119 0 119 [av .shr a_, av .shr b] mem0 = some (Res.res y, m) := by
  refine start_fn (Try.f119.body.getD .skip) [.tmp 4] rfl rfl Try.func119 (by kernel_rfl) (by kernel_rfl) (by simp [Try.ntmps119]) rfl ?_
  unfold laws_eqStringS at hp
  simp [Try.f119]
  rcases cond_cases hp with ⟨h_1, hp⟩ | ⟨h_1, hp⟩
  · try simp at h_1
    cases hp
    simp [Goal, FnEnd, h_1]
  · try simp at h_1
    try simp [h_1]
    obtain ⟨r_23, h_24, hp⟩ := bind_some hp
    obtain ⟨I_4, I_4_⟩ : ∃ I : Int → St → Prop, I = (fun (s_2 : Int) (σ : St) => σ.env 0 = .one (.l .shr a_.length (encL a_)) ∧ σ.env 1 = .one (.l .shr b.length (encL b)) ∧ σ.env 5 = .one (.s (.int .i64 s_2)) ∧ σ.mem = mem0) := ⟨_, rfl⟩
    obtain ⟨X_5, X_5_⟩ : ∃ X : ((Unit) ⊕ (Unit)) → Out → Prop, X = (fun (r_23 : (Unit) ⊕ (Unit)) (out : Out) => Sum.elim (fun r_23 => ∃ σ : St, out = .ret σ ∧ σ.env 4 = .one (.s (.bool false)) ∧ σ.mem = mem0) (fun r_23 => ∃ σ : St, out = .exit 0 σ ∧ σ.mem = mem0) r_23) := ⟨_, rfl⟩
    refine loopP ({ hd := [0, 1, 5], bx := [], ex := [], rt := [4] }) I_4 X_5 h_24 (by exact rfl) ?_ ?_ ?_
    · rw [I_4_]
      exact ⟨by simp [restrict_env, h_1], by simp [restrict_env, h_1], by simp [restrict_env, h_1], by simp [restrict_mem, h_1]⟩
    · intro s_2 σ_6 a_3 hI hp
      rw [I_4_] at hI
      obtain ⟨q_7, q_8, q_9, q_10⟩ := hI
      try simp [h_1, q_7, q_8, q_9, q_10]
      rcases cond_cases hp with ⟨h_11, hp⟩ | ⟨h_11, hp⟩
      · try simp at h_11
        obtain ⟨e_12, h_13, hp⟩ := bind_some hp
        have b_14 := at_lo h_13
        have b_15 := at_hi h_13
        try simp at b_14
        try simp at b_15
        have c_16 := seg_at' h_13 0 1 (by decide) (ds := [.sc (.string e_12)]) rfl
        try simp at c_16
        obtain ⟨e_17, h_18, hp⟩ := bind_some hp
        have b_19 := at_lo h_18
        have b_20 := at_hi h_18
        try simp at b_19
        try simp at b_20
        have c_21 := seg_at' h_18 0 1 (by decide) (ds := [.sc (.string e_17)]) rfl
        try simp at c_21
        try simp [h_1, q_7, q_8, q_9, q_10, h_11, b_14, b_15, c_16, b_19, b_20, c_21]
        rcases cond_cases hp with ⟨h_22, hp⟩ | ⟨h_22, hp⟩
        · try simp at h_22
          cases hp
          try simp [h_1, q_7, q_8, q_9, q_10, h_11, h_22]
          refine goal_outR ?_
          rw [X_5_]
          exact ⟨_, rfl, by simp [restrict_env, h_1, q_7, q_8, q_9, q_10, h_11, h_22], by simp [restrict_mem, h_1, q_7, q_8, q_9, q_10, h_11, h_22]⟩
        · try simp at h_22
          cases hp
          try simp [h_1, q_7, q_8, q_9, q_10, h_11, h_22]
          refine goal_next ?_
          rw [I_4_]
          exact ⟨by simp [restrict_env, h_1, q_7, q_8, q_9, q_10, h_11, h_22], by simp [restrict_env, h_1, q_7, q_8, q_9, q_10, h_11, h_22], by simp [restrict_env, h_1, q_7, q_8, q_9, q_10, h_11, h_22], by simp [restrict_mem, h_1, q_7, q_8, q_9, q_10, h_11, h_22]⟩
      · try simp at h_11
        cases hp
        try simp [h_1, q_7, q_8, q_9, q_10, h_11]
        refine goal_outX ?_
        rw [X_5_]
        exact ⟨_, rfl, by simp [restrict_mem, h_1, q_7, q_8, q_9, q_10, h_11]⟩
    · intro out hX
      rw [X_5_] at hX
      rcases r_23 with r_23 | r_23
      · simp only [Sum.elim_inl, Sum.elim_inr] at hX hp
        obtain ⟨σ_25, rfl, q_26, q_27⟩ := hX
        cases hp
        simp [Goal, FnEnd, h_1, q_26, q_27]
      · simp only [Sum.elim_inl, Sum.elim_inr] at hX hp
        obtain ⟨σ_28, rfl, q_29⟩ := hX
        cases hp
        simp [Goal, FnEnd, h_1, q_29]
theorem pc119 : PC Try.prog 119 C119 := pc_of (g := g119) (fun f F h => by cases h) ⟨Try.f119, Try.func119, by kernel_rfl, by kernel_rfl⟩ fun x y h => w119 h

noncomputable def C174 : List AV → Option AV := specP (X := TStmt × TStmt × Unit) fun x => laws_eqStmt x.1 x.2.1
theorem C174_eq {a_ b} {y} (h : laws_eqStmt a_ b = some y) : C174 [av .shr a_, av .shr b] = some (Res.res y) := specP_eq (X := TStmt × TStmt × Unit) (F := fun x => laws_eqStmt x.1 x.2.1) (x := (a_, b, ())) h
noncomputable def g174 : Cfg := { P := Try.prog, take := [], keep := [], gho := [], ctx := [] }
@[simp] theorem g174_P : g174.P = Try.prog := rfl
@[simp] theorem g174_t : g174.take = [] := rfl
@[simp] theorem g174_g : g174.gho = [] := rfl
set_option maxRecDepth 100000 in
theorem w174 {a_ b} {y} (hp : laws_eqStmt a_ b = some y) : ∃ m, callo g174 0 174 [av .shr a_, av .shr b] mem0 = some (Res.res y, m) := by
  refine start_fn (Try.f174.body.getD .skip) [.tmp 4] rfl rfl Try.func174 (by kernel_rfl) (by kernel_rfl) (by simp [Try.ntmps174]) rfl ?_
  unfold laws_eqStmt at hp
  simp [Try.f174]
  rcases cond_cases hp with ⟨h_1, hp⟩ | ⟨h_1, hp⟩
  · try simp at h_1
    cases hp
    simp [Goal, FnEnd, h_1]
  · try simp at h_1
    try simp [h_1]
    rcases cond_cases hp with ⟨h_2, hp⟩ | ⟨h_2, hp⟩
    · try simp at h_2
      cases hp
      simp [Goal, FnEnd, h_1, h_2]
    · try simp at h_2
      try simp [h_1, h_2]
      rcases cond_cases hp with ⟨h_3, hp⟩ | ⟨h_3, hp⟩
      · try simp at h_3
        cases hp
        simp [Goal, FnEnd, h_1, h_2, h_3]
      · try simp at h_3
        cases hp
        simp [Goal, FnEnd, h_1, h_2, h_3]
theorem pc174 : PC Try.prog 174 C174 := pc_of (g := g174) (fun f F h => by cases h) ⟨Try.f174, Try.func174, by kernel_rfl, by kernel_rfl⟩ fun x y h => w174 h

noncomputable def C159 : List AV → Option AV := specP (X := TEdge × TEdge × Unit) fun x => laws_eqEdge x.1 x.2.1
theorem C159_eq {a_ b} {y} (h : laws_eqEdge a_ b = some y) : C159 [av .shr a_, av .shr b] = some (Res.res y) := specP_eq (X := TEdge × TEdge × Unit) (F := fun x => laws_eqEdge x.1 x.2.1) (x := (a_, b, ())) h
noncomputable def g159 : Cfg := { P := Try.prog, take := [], keep := [], gho := [], ctx := [(174, C174)] }
@[simp] theorem g159_P : g159.P = Try.prog := rfl
@[simp] theorem g159_t : g159.take = [] := rfl
@[simp] theorem g159_g : g159.gho = [] := rfl
@[simp] theorem g159_174 : lookN 174 g159.ctx = some C174 := rfl
set_option maxRecDepth 100000 in
theorem w159 {a_ b} {y} (hp : laws_eqEdge a_ b = some y) : ∃ m, callo g159 0 159 [av .shr a_, av .shr b] mem0 = some (Res.res y, m) := by
  refine start_fn (Try.f159.body.getD .skip) [.tmp 4] rfl rfl Try.func159 (by kernel_rfl) (by kernel_rfl) (by simp [Try.ntmps159]) rfl ?_
  unfold laws_eqEdge at hp
  simp [Try.f159]
  rcases cond_cases hp with ⟨h_1, hp⟩ | ⟨h_1, hp⟩
  · try simp at h_1
    cases hp
    simp [Goal, FnEnd, h_1]
  · try simp at h_1
    try simp [h_1]
    rcases cond_cases hp with ⟨h_2, hp⟩ | ⟨h_2, hp⟩
    · try simp at h_2
      cases hp
      simp [Goal, FnEnd, h_1, h_2]
    · try simp at h_2
      obtain ⟨y_3, h_4, hp⟩ := bind_some hp
      have c_5 := C174_eq h_4
      simp at c_5
      try simp [h_1, h_2, c_5]
      rcases cond_cases hp with ⟨h_6, hp⟩ | ⟨h_6, hp⟩
      · try simp at h_6
        cases hp
        simp [Goal, FnEnd, h_1, h_2, h_6]
      · try simp at h_6
        cases hp
        simp [Goal, FnEnd, h_1, h_2, h_6]
theorem pc159 : PC Try.prog 159 C159 := pc_of (g := g159) (ctxOK_of [(174, C174)] rfl ⟨pc174, trivial⟩) ⟨Try.f159, Try.func159, by kernel_rfl, by kernel_rfl⟩ fun x y h => w159 h

noncomputable def C120 : List AV → Option AV := specP (X := (List TEdge) × (List TEdge) × Unit) fun x => laws_eqEdgeS x.1 x.2.1
theorem C120_eq {a_ b} {y} (h : laws_eqEdgeS a_ b = some y) : C120 [av .shr a_, av .shr b] = some (Res.res y) := specP_eq (X := (List TEdge) × (List TEdge) × Unit) (F := fun x => laws_eqEdgeS x.1 x.2.1) (x := (a_, b, ())) h
noncomputable def g120 : Cfg := { P := Try.prog, take := [], keep := [((120, 4), { hd := [0, 1, 5], bx := [], ex := [], rt := [4] })], gho := [], ctx := [(159, C159)] }
@[simp] theorem g120_P : g120.P = Try.prog := rfl
@[simp] theorem g120_t : g120.take = [] := rfl
@[simp] theorem g120_g : g120.gho = [] := rfl
@[simp] theorem g120_159 : lookN 159 g120.ctx = some C159 := rfl
set_option maxRecDepth 100000 in
theorem w120 {a_ b} {y} (hp : laws_eqEdgeS a_ b = some y) : ∃ m, callo g120 0 120 [av .shr a_, av .shr b] mem0 = some (Res.res y, m) := by
  refine start_fn (Try.f120.body.getD .skip) [.tmp 4] rfl rfl Try.func120 (by kernel_rfl) (by kernel_rfl) (by simp [Try.ntmps120]) rfl ?_
  unfold laws_eqEdgeS at hp
  simp [Try.f120]
  rcases cond_cases hp with ⟨h_1, hp⟩ | ⟨h_1, hp⟩
  · try simp at h_1
    cases hp
    simp [Goal, FnEnd, h_1]
  · try simp at h_1
    try simp [h_1]
    obtain ⟨r_26, h_27, hp⟩ := bind_some hp
    obtain ⟨I_4, I_4_⟩ : ∃ I : Int → St → Prop, I = (fun (s_2 : Int) (σ : St) => σ.env 0 = .one (.l .shr a_.length (encL a_)) ∧ σ.env 1 = .one (.l .shr b.length (encL b)) ∧ σ.env 5 = .one (.s (.int .i64 s_2)) ∧ σ.mem = mem0) := ⟨_, rfl⟩
    obtain ⟨X_5, X_5_⟩ : ∃ X : ((Unit) ⊕ (Unit)) → Out → Prop, X = (fun (r_26 : (Unit) ⊕ (Unit)) (out : Out) => Sum.elim (fun r_26 => ∃ σ : St, out = .ret σ ∧ σ.env 4 = .one (.s (.bool false)) ∧ σ.mem = mem0) (fun r_26 => ∃ σ : St, out = .exit 0 σ ∧ σ.mem = mem0) r_26) := ⟨_, rfl⟩
    refine loopP ({ hd := [0, 1, 5], bx := [], ex := [], rt := [4] }) I_4 X_5 h_27 (by exact rfl) ?_ ?_ ?_
    · rw [I_4_]
      exact ⟨by simp [restrict_env, h_1], by simp [restrict_env, h_1], by simp [restrict_env, h_1], by simp [restrict_mem, h_1]⟩
    · intro s_2 σ_6 a_3 hI hp
      rw [I_4_] at hI
      obtain ⟨q_7, q_8, q_9, q_10⟩ := hI
      try simp [h_1, q_7, q_8, q_9, q_10]
      rcases cond_cases hp with ⟨h_11, hp⟩ | ⟨h_11, hp⟩
      · try simp at h_11
        obtain ⟨e_12, h_13, hp⟩ := bind_some hp
        have b_14 := at_lo h_13
        have b_15 := at_hi h_13
        try simp at b_14
        try simp at b_15
        have c_16 := seg_at' h_13 0 5 (by decide) (ds := [.sc (.int .i64 e_12.from_), .sc (.int .i64 e_12.to_), .sc (.int .i64 e_12.stmt.kind), .sc (.string e_12.stmt.a), .sc (.string e_12.stmt.b)]) rfl
        try simp at c_16
        obtain ⟨e_17, h_18, hp⟩ := bind_some hp
        have b_19 := at_lo h_18
        have b_20 := at_hi h_18
        try simp at b_19
        try simp at b_20
        have c_21 := seg_at' h_18 0 5 (by decide) (ds := [.sc (.int .i64 e_17.from_), .sc (.int .i64 e_17.to_), .sc (.int .i64 e_17.stmt.kind), .sc (.string e_17.stmt.a), .sc (.string e_17.stmt.b)]) rfl
        try simp at c_21
        obtain ⟨y_22, h_23, hp⟩ := bind_some hp
        have c_24 := C159_eq h_23
        simp at c_24
        try simp [h_1, q_7, q_8, q_9, q_10, h_11, b_14, b_15, c_16, b_19, b_20, c_21, c_24]
        rcases cond_cases hp with ⟨h_25, hp⟩ | ⟨h_25, hp⟩
        · try simp at h_25
          cases hp
          try simp [h_1, q_7, q_8, q_9, q_10, h_11, h_25]
          refine goal_next ?_
          rw [I_4_]
          exact ⟨by simp [restrict_env, h_1, q_7, q_8, q_9, q_10, h_11, h_25], by simp [restrict_env, h_1, q_7, q_8, q_9, q_10, h_11, h_25], by simp [restrict_env, h_1, q_7, q_8, q_9, q_10, h_11, h_25], by simp [restrict_mem, h_1, q_7, q_8, q_9, q_10, h_11, h_25]⟩
        · try simp at h_25
          cases hp
          try simp [h_1, q_7, q_8, q_9, q_10, h_11, h_25]
          refine goal_outR ?_
          rw [X_5_]
          exact ⟨_, rfl, by simp [restrict_env, h_1, q_7, q_8, q_9, q_10, h_11, h_25], by simp [restrict_mem, h_1, q_7, q_8, q_9, q_10, h_11, h_25]⟩
      · try simp at h_11
        cases hp
        try simp [h_1, q_7, q_8, q_9, q_10, h_11]
        refine goal_outX ?_
        rw [X_5_]
        exact ⟨_, rfl, by simp [restrict_mem, h_1, q_7, q_8, q_9, q_10, h_11]⟩
    · intro out hX
      rw [X_5_] at hX
      rcases r_26 with r_26 | r_26
      · simp only [Sum.elim_inl, Sum.elim_inr] at hX hp
        obtain ⟨σ_28, rfl, q_29, q_30⟩ := hX
        cases hp
        simp [Goal, FnEnd, h_1, q_29, q_30]
      · simp only [Sum.elim_inl, Sum.elim_inr] at hX hp
        obtain ⟨σ_31, rfl, q_32⟩ := hX
        cases hp
        simp [Goal, FnEnd, h_1, q_32]
theorem pc120 : PC Try.prog 120 C120 := pc_of (g := g120) (ctxOK_of [(159, C159)] rfl ⟨pc159, trivial⟩) ⟨Try.f120, Try.func120, by kernel_rfl, by kernel_rfl⟩ fun x y h => w120 h

noncomputable def C65 : List AV → Option AV := specP (X := TProgram × TProgram × Unit) fun x => laws_eqProgram x.1 x.2.1
theorem C65_eq {a_ b} {y} (h : laws_eqProgram a_ b = some y) : C65 [av .shr a_, av .shr b] = some (Res.res y) := specP_eq (X := TProgram × TProgram × Unit) (F := fun x => laws_eqProgram x.1 x.2.1) (x := (a_, b, ())) h
noncomputable def g65 : Cfg := { P := Try.prog, take := [], keep := [], gho := [], ctx := [(119, C119), (120, C120)] }
@[simp] theorem g65_P : g65.P = Try.prog := rfl
@[simp] theorem g65_t : g65.take = [] := rfl
@[simp] theorem g65_g : g65.gho = [] := rfl
@[simp] theorem g65_119 : lookN 119 g65.ctx = some C119 := rfl
@[simp] theorem g65_120 : lookN 120 g65.ctx = some C120 := rfl
set_option maxRecDepth 100000 in
theorem w65 {a_ b} {y} (hp : laws_eqProgram a_ b = some y) : ∃ m, callo g65 0 65 [av .shr a_, av .shr b] mem0 = some (Res.res y, m) := by
  refine start_fn (Try.f65.body.getD .skip) [.tmp 4] rfl rfl Try.func65 (by kernel_rfl) (by kernel_rfl) (by simp [Try.ntmps65]) rfl ?_
  unfold laws_eqProgram at hp
  obtain ⟨y_1, h_2, hp⟩ := bind_some hp
  have c_3 := C119_eq h_2
  simp at c_3
  simp [Try.f65, c_3]
  rcases cond_cases hp with ⟨h_4, hp⟩ | ⟨h_4, hp⟩
  · try simp at h_4
    try simp [h_4]
    rcases cond_cases hp with ⟨h_5, hp⟩ | ⟨h_5, hp⟩
    · try simp at h_5
      cases hp
      simp [Goal, FnEnd, h_4, h_5]
    · try simp at h_5
      obtain ⟨y_6, h_7, hp⟩ := bind_some hp
      have c_8 := C120_eq h_7
      simp at c_8
      try simp [h_4, h_5, c_8]
      rcases cond_cases hp with ⟨h_9, hp⟩ | ⟨h_9, hp⟩
      · try simp at h_9
        cases hp
        simp [Goal, FnEnd, h_4, h_5, h_9]
      · try simp at h_9
        cases hp
        simp [Goal, FnEnd, h_4, h_5, h_9]
  · try simp at h_4
    cases hp
    simp [Goal, FnEnd, h_4]
theorem pc65 : PC Try.prog 65 C65 := pc_of (g := g65) (ctxOK_of [(119, C119), (120, C120)] rfl ⟨pc119, pc120, trivial⟩) ⟨Try.f65, Try.func65, by kernel_rfl, by kernel_rfl⟩ fun x y h => w65 h

noncomputable def C85 : List AV → Option AV := specP (X := (List Int) × (List Int) × Unit) fun x => laws_eqIntS x.1 x.2.1
theorem C85_eq {a_ b} {y} (h : laws_eqIntS a_ b = some y) : C85 [av .shr a_, av .shr b] = some (Res.res y) := specP_eq (X := (List Int) × (List Int) × Unit) (F := fun x => laws_eqIntS x.1 x.2.1) (x := (a_, b, ())) h
noncomputable def g85 : Cfg := { P := Try.prog, take := [], keep := [((85, 4), { hd := [0, 1, 5], bx := [], ex := [], rt := [4] })], gho := [], ctx := [] }
@[simp] theorem g85_P : g85.P = Try.prog := rfl
@[simp] theorem g85_t : g85.take = [] := rfl
@[simp] theorem g85_g : g85.gho = [] := rfl
set_option maxRecDepth 100000 in
theorem w85 {a_ b} {y} (hp : laws_eqIntS a_ b = some y) : ∃ m, callo g85 0 85 [av .shr a_, av .shr b] mem0 = some (Res.res y, m) := by
  refine start_fn (Try.f85.body.getD .skip) [.tmp 4] rfl rfl Try.func85 (by kernel_rfl) (by kernel_rfl) (by simp [Try.ntmps85]) rfl ?_
  unfold laws_eqIntS at hp
  simp [Try.f85]
  rcases cond_cases hp with ⟨h_1, hp⟩ | ⟨h_1, hp⟩
  · try simp at h_1
    cases hp
    simp [Goal, FnEnd, h_1]
  · try simp at h_1
    try simp [h_1]
    obtain ⟨r_23, h_24, hp⟩ := bind_some hp
    obtain ⟨I_4, I_4_⟩ : ∃ I : Int → St → Prop, I = (fun (s_2 : Int) (σ : St) => σ.env 0 = .one (.l .shr a_.length (encL a_)) ∧ σ.env 1 = .one (.l .shr b.length (encL b)) ∧ σ.env 5 = .one (.s (.int .i64 s_2)) ∧ σ.mem = mem0) := ⟨_, rfl⟩
    obtain ⟨X_5, X_5_⟩ : ∃ X : ((Unit) ⊕ (Unit)) → Out → Prop, X = (fun (r_23 : (Unit) ⊕ (Unit)) (out : Out) => Sum.elim (fun r_23 => ∃ σ : St, out = .ret σ ∧ σ.env 4 = .one (.s (.bool false)) ∧ σ.mem = mem0) (fun r_23 => ∃ σ : St, out = .exit 0 σ ∧ σ.mem = mem0) r_23) := ⟨_, rfl⟩
    refine loopP ({ hd := [0, 1, 5], bx := [], ex := [], rt := [4] }) I_4 X_5 h_24 (by exact rfl) ?_ ?_ ?_
    · rw [I_4_]
      exact ⟨by simp [restrict_env, h_1], by simp [restrict_env, h_1], by simp [restrict_env, h_1], by simp [restrict_mem, h_1]⟩
    · intro s_2 σ_6 a_3 hI hp
      rw [I_4_] at hI
      obtain ⟨q_7, q_8, q_9, q_10⟩ := hI
      try simp [h_1, q_7, q_8, q_9, q_10]
      rcases cond_cases hp with ⟨h_11, hp⟩ | ⟨h_11, hp⟩
      · try simp at h_11
        obtain ⟨e_12, h_13, hp⟩ := bind_some hp
        have b_14 := at_lo h_13
        have b_15 := at_hi h_13
        try simp at b_14
        try simp at b_15
        have c_16 := seg_at' h_13 0 1 (by decide) (ds := [.sc (.int .i64 e_12)]) rfl
        try simp at c_16
        obtain ⟨e_17, h_18, hp⟩ := bind_some hp
        have b_19 := at_lo h_18
        have b_20 := at_hi h_18
        try simp at b_19
        try simp at b_20
        have c_21 := seg_at' h_18 0 1 (by decide) (ds := [.sc (.int .i64 e_17)]) rfl
        try simp at c_21
        try simp [h_1, q_7, q_8, q_9, q_10, h_11, b_14, b_15, c_16, b_19, b_20, c_21]
        rcases cond_cases hp with ⟨h_22, hp⟩ | ⟨h_22, hp⟩
        · try simp at h_22
          cases hp
          try simp [h_1, q_7, q_8, q_9, q_10, h_11, h_22]
          refine goal_outR ?_
          rw [X_5_]
          exact ⟨_, rfl, by simp [restrict_env, h_1, q_7, q_8, q_9, q_10, h_11, h_22], by simp [restrict_mem, h_1, q_7, q_8, q_9, q_10, h_11, h_22]⟩
        · try simp at h_22
          cases hp
          try simp [h_1, q_7, q_8, q_9, q_10, h_11, h_22]
          refine goal_next ?_
          rw [I_4_]
          exact ⟨by simp [restrict_env, h_1, q_7, q_8, q_9, q_10, h_11, h_22], by simp [restrict_env, h_1, q_7, q_8, q_9, q_10, h_11, h_22], by simp [restrict_env, h_1, q_7, q_8, q_9, q_10, h_11, h_22], by simp [restrict_mem, h_1, q_7, q_8, q_9, q_10, h_11, h_22]⟩
      · try simp at h_11
        cases hp
        try simp [h_1, q_7, q_8, q_9, q_10, h_11]
        refine goal_outX ?_
        rw [X_5_]
        exact ⟨_, rfl, by simp [restrict_mem, h_1, q_7, q_8, q_9, q_10, h_11]⟩
    · intro out hX
      rw [X_5_] at hX
      rcases r_23 with r_23 | r_23
      · simp only [Sum.elim_inl, Sum.elim_inr] at hX hp
        obtain ⟨σ_25, rfl, q_26, q_27⟩ := hX
        cases hp
        simp [Goal, FnEnd, h_1, q_26, q_27]
      · simp only [Sum.elim_inl, Sum.elim_inr] at hX hp
        obtain ⟨σ_28, rfl, q_29⟩ := hX
        cases hp
        simp [Goal, FnEnd, h_1, q_29]
theorem pc85 : PC Try.prog 85 C85 := pc_of (g := g85) (fun f F h => by cases h) ⟨Try.f85, Try.func85, by kernel_rfl, by kernel_rfl⟩ fun x y h => w85 h
end Go.Proofs
