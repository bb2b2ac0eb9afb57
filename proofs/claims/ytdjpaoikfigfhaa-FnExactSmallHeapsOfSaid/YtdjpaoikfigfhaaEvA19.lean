import Derived.Test.YtdjpaoikfigfhaaEvA18
set_option linter.unusedSimpArgs false
set_option linter.unusedVariables false
set_option linter.unnecessarySimpa false
namespace Go.Proofs
open Go.Ev
noncomputable def C25 : List AV → Option AV := specP (X := (List TStructure) × Int × Unit) fun x => laws_szStructureS x.1 x.2.1
theorem C25_eq {a_ left} {y} (h : laws_szStructureS a_ left = some y) : C25 [av .shr a_, av .shr left] = some (Res.res y) := specP_eq (X := (List TStructure) × Int × Unit) (F := fun x => laws_szStructureS x.1 x.2.1) (x := (a_, left, ())) h
noncomputable def g25 : Cfg := { P := Try.prog, take := [], keep := [((25, 5), { hd := [0, 1, 5], bx := [], ex := [1], rt := [4] })], gho := [], ctx := [(11, C11)] }
@[simp] theorem g25_P : g25.P = Try.prog := rfl
@[simp] theorem g25_t : g25.take = [] := rfl
@[simp] theorem g25_g : g25.gho = [] := rfl
@[simp] theorem g25_r : g25.ro = [] := rfl
@[simp] theorem g25_w : g25.away = [] := by rw [g25]
@[simp] theorem g25_11 : lookN 11 g25.ctx = some C11 := rfl
set_option maxHeartbeats 4000000 in
set_option maxRecDepth 100000 in
theorem w25 {a_ left} {y} (hp : laws_szStructureS a_ left = some y) : ∃ m, callo g25 0 25 [av .shr a_, av .shr left] mem0 = some (Res.res y, m) := by
  refine start_fn (Try.f25.body.getD .skip) [.tmp 4] rfl rfl Try.func25 (by kernel_rfl) (by kernel_rfl) (by simp [Try.ntmps25]) rfl ?_
  unfold laws_szStructureS at hp
  simp [Try.f25]
  rcases cond_cases hp with ⟨h_1, hp⟩ | ⟨h_1, hp⟩
  · try simp at h_1
    cases hp
    simp [Goal, FnEnd, h_1]
  · try simp at h_1
    try simp [h_1]
    obtain ⟨r_21, h_22, hp⟩ := bind_some hp
    obtain ⟨I_4, I_4_⟩ : ∃ I : Int × Int → St → Prop, I = (fun (s_2 : Int × Int) (σ : St) => σ.env 0 = .one (.l .shr a_.length (encL a_)) ∧ σ.env 1 = .one (.s (.int .i64 s_2.1)) ∧ σ.env 5 = .one (.s (.int .i64 s_2.2)) ∧ σ.mem = mem0) := ⟨_, rfl⟩
    obtain ⟨X_5, X_5_⟩ : ∃ X : ((Int) ⊕ (Int)) → Out → Prop, X = (fun (r_21 : (Int) ⊕ (Int)) (out : Out) => Sum.elim (fun r_21 => ∃ σ : St, out = .ret σ ∧ σ.env 4 = .one (.s (.int .i64 r_21)) ∧ σ.mem = mem0) (fun r_21 => ∃ σ : St, out = .exit 0 σ ∧ σ.env 1 = .one (.s (.int .i64 r_21)) ∧ σ.mem = mem0) r_21) := ⟨_, rfl⟩
    refine loopP ({ hd := [0, 1, 5], bx := [], ex := [1], rt := [4] }) I_4 X_5 h_22 (by exact rfl) ?_ ?_ ?_
    · rw [I_4_]
      refine ⟨?_, ?_, ?_, ?_⟩ <;> simp [restrict_env, restrict_mem, h_1]
    · intro s_2 σ_6 a_3 hI hp
      rw [I_4_] at hI
      obtain ⟨q_7, q_8, q_9, q_10⟩ := hI
      try simp [h_1, q_7, q_8, q_9, q_10]
      rcases cond_cases hp with ⟨h_11, hp⟩ | ⟨h_11, hp⟩
      · try simp at h_11
        obtain ⟨e_12, h_13, hp⟩ := bind_some hp
        have b_14 := at_lo h_13
        have b_15 := at_hi h_13
        try simp at b_14
        try simp at b_15
        have c_16 := seg_at' h_13 0 2 (by decide) (ds := [.sl e_12.nodes.length (encL e_12.nodes), .sl e_12.next.length (encL e_12.next)]) rfl
        try simp at c_16
        obtain ⟨y_17, h_18, hp⟩ := bind_some hp
        have c_19 := C11_eq h_18
        simp at c_19
        try simp [h_1, q_7, q_8, q_9, q_10, h_11, b_14, b_15, c_16, c_19]
        rcases cond_cases hp with ⟨h_20, hp⟩ | ⟨h_20, hp⟩
        · try simp at h_20
          cases hp
          try simp [h_1, q_7, q_8, q_9, q_10, h_11, h_20]
          refine goal_outR ?_
          rw [X_5_]
          refine ⟨_, rfl, ?_, ?_⟩ <;> simp [restrict_env, restrict_mem, h_1, q_7, q_8, q_9, q_10, h_11, h_20]
        · try simp at h_20
          cases hp
          try simp [h_1, q_7, q_8, q_9, q_10, h_11, h_20]
          refine goal_next ?_
          rw [I_4_]
          refine ⟨?_, ?_, ?_, ?_⟩ <;> simp [restrict_env, restrict_mem, h_1, q_7, q_8, q_9, q_10, h_11, h_20]
      · try simp at h_11
        cases hp
        try simp [h_1, q_7, q_8, q_9, q_10, h_11]
        refine goal_outX ?_
        rw [X_5_]
        refine ⟨_, rfl, ?_, ?_⟩ <;> simp [restrict_env, restrict_mem, h_1, q_7, q_8, q_9, q_10, h_11]
    · intro out hX
      rw [X_5_] at hX
      rcases r_21 with r_21 | r_21
      · simp only [Sum.elim_inl, Sum.elim_inr] at hX hp
        obtain ⟨σ_23, rfl, q_24, q_25⟩ := hX
        cases hp
        simp [Goal, FnEnd, h_1, q_24, q_25]
      · simp only [Sum.elim_inl, Sum.elim_inr] at hX hp
        obtain ⟨σ_26, rfl, q_27, q_28⟩ := hX
        cases hp
        simp [Goal, FnEnd, h_1, q_27, q_28]
theorem pc25 : PC Try.prog 25 C25 := pc_of (g := g25) (ctxOK_of [(11, C11)] rfl ⟨pc11, trivial⟩) ⟨Try.f25, Try.func25, by kernel_rfl, by kernel_rfl⟩ fun x y h => w25 h

noncomputable def C27 : List AV → Option AV := specP (X := (List TStructure) × Unit) fun x => laws_toStructureS x.1
theorem C27_eq {a_} {y} (h : laws_toStructureS a_ = some y) : C27 [av .shr a_] = some (Res.res y) := specP_eq (X := (List TStructure) × Unit) (F := fun x => laws_toStructureS x.1) (x := (a_, ())) h
noncomputable def g27 : Cfg := { P := Try.prog, take := [(27, 7)], keep := [((27, 3), { hd := [0, 3, 4], bx := [], ex := [3], rt := [2] })], gho := [((27, atEnd), [.frz (.sl 2 0)])], ctx := [(13, C13)] }
@[simp] theorem g27_P : g27.P = Try.prog := rfl
@[simp] theorem g27_t : g27.take = [(27, 7)] := rfl
@[simp] theorem g27_g : g27.gho = [((27, atEnd), [.frz (.sl 2 0)])] := rfl
@[simp] theorem g27_r : g27.ro = [] := rfl
@[simp] theorem g27_w : g27.away = [] := by rw [g27]
@[simp] theorem g27_13 : lookN 13 g27.ctx = some C13 := rfl
set_option maxHeartbeats 4000000 in
set_option maxRecDepth 100000 in
theorem w27 {a_} {y} (hp : laws_toStructureS a_ = some y) : ∃ m, callo g27 0 27 [av .shr a_] mem0 = some (Res.res y, m) := by
  refine start_fn (Try.f27.body.getD .skip) [.tmp 2] rfl rfl Try.func27 (by kernel_rfl) (by kernel_rfl) (by simp [Try.ntmps27]) rfl ?_
  unfold laws_toStructureS at hp
  obtain ⟨_, h_1, hp⟩ := bind_some hp
  have b_2 := roomI_lo h_1
  have b_3 := roomI_ok h_1
  try simp at b_2
  try simp at b_3
  have r_4 := row_replicate (a_.length : Int).toNat ((⟨[], []⟩ : TStructure) : TStructure) (by rfl)
  try simp at r_4
  simp [Try.f27, b_2, b_3, r_4]
  obtain ⟨r_30, h_31, hp⟩ := bind_some hp
  obtain ⟨I_7, I_7_⟩ : ∃ I : Int × (List TStructure) → St → Prop, I = (fun (s_5 : Int × (List TStructure)) (σ : St) => σ.env 0 = .one (.l .shr a_.length (encL a_)) ∧ σ.env 3 = .one (.bs (1, 7) s_5.2.length 2) ∧ σ.env 4 = .one (.s (.int .i64 s_5.1)) ∧ σ.mem (1, 7) = some (rowC s_5.2) ∧ NoBox [(1, 7)] σ.mem) := ⟨_, rfl⟩
  obtain ⟨X_8, X_8_⟩ : ∃ X : (List TStructure) → Out → Prop, X = (fun (r_30 : (List TStructure)) (out : Out) => ∃ σ : St, out = .exit 0 σ ∧ σ.env 3 = .one (.bs (1, 7) r_30.length 2) ∧ σ.mem (1, 7) = some (rowC r_30) ∧ NoBox [(1, 7)] σ.mem) := ⟨_, rfl⟩
  refine loopP ({ hd := [0, 3, 4], bx := [], ex := [3], rt := [2] }) I_7 X_8 h_31 (by exact rfl) ?_ ?_ ?_
  · rw [I_7_]
    refine ⟨?_, ?_, ?_, ?_, NoBox.restrict (by intro k hk hb; simp at hk hb; simp [hk, hb])⟩ <;> simp [restrict_env, restrict_mem]
  · intro s_5 σ_9 a_6 hI hp
    rw [I_7_] at hI
    obtain ⟨q_10, q_11, q_12, q_13, hn_14⟩ := hI
    try simp [q_10, q_11, q_12, q_13]
    rcases cond_cases hp with ⟨h_15, hp⟩ | ⟨h_15, hp⟩
    · try simp at h_15
      obtain ⟨e_16, h_17, hp⟩ := bind_some hp
      have b_18 := at_lo h_17
      have b_19 := at_hi h_17
      try simp at b_18
      try simp at b_19
      have c_20 := seg_at' h_17 0 2 (by decide) (ds := [.sl e_16.nodes.length (encL e_16.nodes), .sl e_16.next.length (encL e_16.next)]) rfl
      try simp at c_20
      obtain ⟨y_21, h_22, hp⟩ := bind_some hp
      have c_23 := C13_eq h_22
      simp at c_23
      obtain ⟨e_24, h_25, hp⟩ := bind_some hp
      have b_26 := at_lo h_25
      have b_27 := at_hi h_25
      try simp at b_26
      try simp at b_27
      have c_28 := splice_row h_25 0 y_21 [(.l .own y_21.nodes.length (encL y_21.nodes)), (.l .own y_21.next.length (encL y_21.next))] (by simp) rfl
      try simp at c_28
      have l_29 := row_room h_25 0 (m := 2) (by decide)
      try simp at l_29
      cases hp
      try simp [q_10, q_11, q_12, q_13, h_15, b_18, b_19, c_20, c_23, b_26, b_27, c_28, l_29]
      refine goal_next ?_
      rw [I_7_]
      refine ⟨?_, ?_, ?_, ?_, NoBox.restrict (by intro k hk hb; simp at hk hb; simp [hk, hb, q_10, q_11, q_12, q_13, h_15, b_18, b_19, c_20, c_23, b_26, b_27, c_28, l_29, hn_14 k (by simp [hk, hb])])⟩ <;> simp [restrict_env, restrict_mem, q_10, q_11, q_12, q_13, h_15, b_18, b_19, c_20, c_23, b_26, b_27, c_28, l_29]
    · try simp at h_15
      cases hp
      try simp [q_10, q_11, q_12, q_13, h_15]
      refine goal_outX ?_
      rw [X_8_]
      refine ⟨_, rfl, ?_, ?_, NoBox.restrict (by intro k hk hb; simp at hk hb; simp [hk, hb, q_10, q_11, q_12, q_13, h_15, hn_14 k (by simp [hk, hb])])⟩ <;> simp [restrict_env, restrict_mem, q_10, q_11, q_12, q_13, h_15]
  · intro out hX
    rw [X_8_] at hX
    obtain ⟨σ_32, rfl, q_33, q_34, hn_35⟩ := hX
    cases hp
    simp [Goal, FnEnd, q_33, q_34]
theorem pc27 : PC Try.prog 27 C27 := pc_of (g := g27) (ctxOK_of [(13, C13)] rfl ⟨pc13, trivial⟩) ⟨Try.f27, Try.func27, by kernel_rfl, by kernel_rfl⟩ fun x y h => w27 h

noncomputable def C29 : List AV → Option AV := specP (X := (List THeap) × (List THeap) × Unit) fun x => laws_eqHeapS x.1 x.2.1
theorem C29_eq {a_ b_} {y} (h : laws_eqHeapS a_ b_ = some y) : C29 [av .shr a_, av .shr b_] = some (Res.res y) := specP_eq (X := (List THeap) × (List THeap) × Unit) (F := fun x => laws_eqHeapS x.1 x.2.1) (x := (a_, b_, ())) h
noncomputable def g29 : Cfg := { P := Try.prog, take := [], keep := [((29, 4), { hd := [0, 1, 5], bx := [], ex := [], rt := [4] })], gho := [], ctx := [(15, C15)] }
@[simp] theorem g29_P : g29.P = Try.prog := rfl
@[simp] theorem g29_t : g29.take = [] := rfl
@[simp] theorem g29_g : g29.gho = [] := rfl
@[simp] theorem g29_r : g29.ro = [] := rfl
@[simp] theorem g29_w : g29.away = [] := by rw [g29]
@[simp] theorem g29_15 : lookN 15 g29.ctx = some C15 := rfl
set_option maxHeartbeats 4000000 in
set_option maxRecDepth 100000 in
theorem w29 {a_ b_} {y} (hp : laws_eqHeapS a_ b_ = some y) : ∃ m, callo g29 0 29 [av .shr a_, av .shr b_] mem0 = some (Res.res y, m) := by
  refine start_fn (Try.f29.body.getD .skip) [.tmp 4] rfl rfl Try.func29 (by kernel_rfl) (by kernel_rfl) (by simp [Try.ntmps29]) rfl ?_
  unfold laws_eqHeapS at hp
  simp [Try.f29]
  rcases cond_cases hp with ⟨h_1, hp⟩ | ⟨h_1, hp⟩
  · try simp at h_1
    cases hp
    simp [Goal, FnEnd, h_1]
  · try simp at h_1
    try simp [h_1]
    obtain ⟨r_26, h_27, hp⟩ := bind_some hp
    obtain ⟨I_4, I_4_⟩ : ∃ I : Int → St → Prop, I = (fun (s_2 : Int) (σ : St) => σ.env 0 = .one (.l .shr a_.length (encL a_)) ∧ σ.env 1 = .one (.l .shr b_.length (encL b_)) ∧ σ.env 5 = .one (.s (.int .i64 s_2)) ∧ σ.mem = mem0) := ⟨_, rfl⟩
    obtain ⟨X_5, X_5_⟩ : ∃ X : ((Unit) ⊕ (Unit)) → Out → Prop, X = (fun (r_26 : (Unit) ⊕ (Unit)) (out : Out) => Sum.elim (fun r_26 => ∃ σ : St, out = .ret σ ∧ σ.env 4 = .one (.s (.bool false)) ∧ σ.mem = mem0) (fun r_26 => ∃ σ : St, out = .exit 0 σ ∧ σ.mem = mem0) r_26) := ⟨_, rfl⟩
    refine loopP ({ hd := [0, 1, 5], bx := [], ex := [], rt := [4] }) I_4 X_5 h_27 (by exact rfl) ?_ ?_ ?_
    · rw [I_4_]
      refine ⟨?_, ?_, ?_, ?_⟩ <;> simp [restrict_env, restrict_mem, h_1]
    · intro s_2 σ_6 a_3 hI hp
      rw [I_4_] at hI
      obtain ⟨q_7, q_8, q_9, q_10⟩ := hI
      try simp [h_1, q_7, q_8, q_9, q_10]
      rcases cond_cases hp with ⟨h_11, hp⟩ | ⟨h_11, hp⟩
      · try simp at h_11
        obtain ⟨e_12, h_13, hp⟩ := bind_some hp
        have b_14 := at_lo h_13
        have b_15 := at_hi h_13
        try simp at b_14
        try simp at b_15
        have c_16 := seg_at' h_13 0 2 (by decide) (ds := [.sl e_12.vars.length (encL e_12.vars), .sl e_12.next.length (encL e_12.next)]) rfl
        try simp at c_16
        obtain ⟨e_17, h_18, hp⟩ := bind_some hp
        have b_19 := at_lo h_18
        have b_20 := at_hi h_18
        try simp at b_19
        try simp at b_20
        have c_21 := seg_at' h_18 0 2 (by decide) (ds := [.sl e_17.vars.length (encL e_17.vars), .sl e_17.next.length (encL e_17.next)]) rfl
        try simp at c_21
        obtain ⟨y_22, h_23, hp⟩ := bind_some hp
        have c_24 := C15_eq h_23
        simp at c_24
        try simp [h_1, q_7, q_8, q_9, q_10, h_11, b_14, b_15, c_16, b_19, b_20, c_21, c_24]
        rcases cond_cases hp with ⟨h_25, hp⟩ | ⟨h_25, hp⟩
        · try simp at h_25
          cases hp
          try simp [h_1, q_7, q_8, q_9, q_10, h_11, h_25]
          refine goal_next ?_
          rw [I_4_]
          refine ⟨?_, ?_, ?_, ?_⟩ <;> simp [restrict_env, restrict_mem, h_1, q_7, q_8, q_9, q_10, h_11, h_25]
        · try simp at h_25
          cases hp
          try simp [h_1, q_7, q_8, q_9, q_10, h_11, h_25]
          refine goal_outR ?_
          rw [X_5_]
          refine ⟨_, rfl, ?_, ?_⟩ <;> simp [restrict_env, restrict_mem, h_1, q_7, q_8, q_9, q_10, h_11, h_25]
      · try simp at h_11
        cases hp
        try simp [h_1, q_7, q_8, q_9, q_10, h_11]
        refine goal_outX ?_
        rw [X_5_]
        exact ⟨_, rfl, by simp [restrict_mem, h_1, q_7, q_8, q_9, q_10, h_11]⟩
    · intro out hX
      rw [X_5_] at hX
      rcases r_26 with r_26 | r_26
      · simp only [Sum.elim_inl, Sum.elim_inr] at hX hp
        obtain ⟨σ_28, rfl, q_29, q_30⟩ := hX
        cases hp
        simp [Goal, FnEnd, h_1, q_29, q_30]
      · simp only [Sum.elim_inl, Sum.elim_inr] at hX hp
        obtain ⟨σ_31, rfl, q_32⟩ := hX
        cases hp
        simp [Goal, FnEnd, h_1, q_32]
theorem pc29 : PC Try.prog 29 C29 := pc_of (g := g29) (ctxOK_of [(15, C15)] rfl ⟨pc15, trivial⟩) ⟨Try.f29, Try.func29, by kernel_rfl, by kernel_rfl⟩ fun x y h => w29 h

noncomputable def C30 : List AV → Option AV := specP (X := (List TStructure) × (List TStructure) × Unit) fun x => laws_eqStructureS x.1 x.2.1
theorem C30_eq {a_ b_} {y} (h : laws_eqStructureS a_ b_ = some y) : C30 [av .shr a_, av .shr b_] = some (Res.res y) := specP_eq (X := (List TStructure) × (List TStructure) × Unit) (F := fun x => laws_eqStructureS x.1 x.2.1) (x := (a_, b_, ())) h
noncomputable def g30 : Cfg := { P := Try.prog, take := [], keep := [((30, 4), { hd := [0, 1, 5], bx := [], ex := [], rt := [4] })], gho := [], ctx := [(16, C16)] }
@[simp] theorem g30_P : g30.P = Try.prog := rfl
@[simp] theorem g30_t : g30.take = [] := rfl
@[simp] theorem g30_g : g30.gho = [] := rfl
@[simp] theorem g30_r : g30.ro = [] := rfl
@[simp] theorem g30_w : g30.away = [] := by rw [g30]
@[simp] theorem g30_16 : lookN 16 g30.ctx = some C16 := rfl
set_option maxHeartbeats 4000000 in
set_option maxRecDepth 100000 in
theorem w30 {a_ b_} {y} (hp : laws_eqStructureS a_ b_ = some y) : ∃ m, callo g30 0 30 [av .shr a_, av .shr b_] mem0 = some (Res.res y, m) := by
  refine start_fn (Try.f30.body.getD .skip) [.tmp 4] rfl rfl Try.func30 (by kernel_rfl) (by kernel_rfl) (by simp [Try.ntmps30]) rfl ?_
  unfold laws_eqStructureS at hp
  simp [Try.f30]
  rcases cond_cases hp with ⟨h_1, hp⟩ | ⟨h_1, hp⟩
  · try simp at h_1
    cases hp
    simp [Goal, FnEnd, h_1]
  · try simp at h_1
    try simp [h_1]
    obtain ⟨r_26, h_27, hp⟩ := bind_some hp
    obtain ⟨I_4, I_4_⟩ : ∃ I : Int → St → Prop, I = (fun (s_2 : Int) (σ : St) => σ.env 0 = .one (.l .shr a_.length (encL a_)) ∧ σ.env 1 = .one (.l .shr b_.length (encL b_)) ∧ σ.env 5 = .one (.s (.int .i64 s_2)) ∧ σ.mem = mem0) := ⟨_, rfl⟩
    obtain ⟨X_5, X_5_⟩ : ∃ X : ((Unit) ⊕ (Unit)) → Out → Prop, X = (fun (r_26 : (Unit) ⊕ (Unit)) (out : Out) => Sum.elim (fun r_26 => ∃ σ : St, out = .ret σ ∧ σ.env 4 = .one (.s (.bool false)) ∧ σ.mem = mem0) (fun r_26 => ∃ σ : St, out = .exit 0 σ ∧ σ.mem = mem0) r_26) := ⟨_, rfl⟩
    refine loopP ({ hd := [0, 1, 5], bx := [], ex := [], rt := [4] }) I_4 X_5 h_27 (by exact rfl) ?_ ?_ ?_
    · rw [I_4_]
      refine ⟨?_, ?_, ?_, ?_⟩ <;> simp [restrict_env, restrict_mem, h_1]
    · intro s_2 σ_6 a_3 hI hp
      rw [I_4_] at hI
      obtain ⟨q_7, q_8, q_9, q_10⟩ := hI
      try simp [h_1, q_7, q_8, q_9, q_10]
      rcases cond_cases hp with ⟨h_11, hp⟩ | ⟨h_11, hp⟩
      · try simp at h_11
        obtain ⟨e_12, h_13, hp⟩ := bind_some hp
        have b_14 := at_lo h_13
        have b_15 := at_hi h_13
        try simp at b_14
        try simp at b_15
        have c_16 := seg_at' h_13 0 2 (by decide) (ds := [.sl e_12.nodes.length (encL e_12.nodes), .sl e_12.next.length (encL e_12.next)]) rfl
        try simp at c_16
        obtain ⟨e_17, h_18, hp⟩ := bind_some hp
        have b_19 := at_lo h_18
        have b_20 := at_hi h_18
        try simp at b_19
        try simp at b_20
        have c_21 := seg_at' h_18 0 2 (by decide) (ds := [.sl e_17.nodes.length (encL e_17.nodes), .sl e_17.next.length (encL e_17.next)]) rfl
        try simp at c_21
        obtain ⟨y_22, h_23, hp⟩ := bind_some hp
        have c_24 := C16_eq h_23
        simp at c_24
        try simp [h_1, q_7, q_8, q_9, q_10, h_11, b_14, b_15, c_16, b_19, b_20, c_21, c_24]
        rcases cond_cases hp with ⟨h_25, hp⟩ | ⟨h_25, hp⟩
        · try simp at h_25
          cases hp
          try simp [h_1, q_7, q_8, q_9, q_10, h_11, h_25]
          refine goal_next ?_
          rw [I_4_]
          refine ⟨?_, ?_, ?_, ?_⟩ <;> simp [restrict_env, restrict_mem, h_1, q_7, q_8, q_9, q_10, h_11, h_25]
        · try simp at h_25
          cases hp
          try simp [h_1, q_7, q_8, q_9, q_10, h_11, h_25]
          refine goal_outR ?_
          rw [X_5_]
          refine ⟨_, rfl, ?_, ?_⟩ <;> simp [restrict_env, restrict_mem, h_1, q_7, q_8, q_9, q_10, h_11, h_25]
      · try simp at h_11
        cases hp
        try simp [h_1, q_7, q_8, q_9, q_10, h_11]
        refine goal_outX ?_
        rw [X_5_]
        exact ⟨_, rfl, by simp [restrict_mem, h_1, q_7, q_8, q_9, q_10, h_11]⟩
    · intro out hX
      rw [X_5_] at hX
      rcases r_26 with r_26 | r_26
      · simp only [Sum.elim_inl, Sum.elim_inr] at hX hp
        obtain ⟨σ_28, rfl, q_29, q_30⟩ := hX
        cases hp
        simp [Goal, FnEnd, h_1, q_29, q_30]
      · simp only [Sum.elim_inl, Sum.elim_inr] at hX hp
        obtain ⟨σ_31, rfl, q_32⟩ := hX
        cases hp
        simp [Goal, FnEnd, h_1, q_32]
theorem pc30 : PC Try.prog 30 C30 := pc_of (g := g30) (ctxOK_of [(16, C16)] rfl ⟨pc16, trivial⟩) ⟨Try.f30, Try.func30, by kernel_rfl, by kernel_rfl⟩ fun x y h => w30 h

noncomputable def C33 : List AV → Option AV := specP (X := (List THeap) × Int × Unit) fun x => laws_heldHeapS x.1 x.2.1
theorem C33_eq {a_ k_} {y} (h : laws_heldHeapS a_ k_ = some y) : C33 [av .shr a_, av .shr k_] = some (Res.res y) := specP_eq (X := (List THeap) × Int × Unit) (F := fun x => laws_heldHeapS x.1 x.2.1) (x := (a_, k_, ())) h
noncomputable def g33 : Cfg := { P := Try.prog, take := [], keep := [((33, 2), { hd := [0, 1, 5], bx := [], ex := [1], rt := [4] })], gho := [], ctx := [(58, C58)] }
@[simp] theorem g33_P : g33.P = Try.prog := rfl
@[simp] theorem g33_t : g33.take = [] := rfl
@[simp] theorem g33_g : g33.gho = [] := rfl
@[simp] theorem g33_r : g33.ro = [] := rfl
@[simp] theorem g33_w : g33.away = [] := by rw [g33]
@[simp] theorem g33_58 : lookN 58 g33.ctx = some C58 := rfl
set_option maxHeartbeats 4000000 in
set_option maxRecDepth 100000 in
theorem w33 {a_ k_} {y} (hp : laws_heldHeapS a_ k_ = some y) : ∃ m, callo g33 0 33 [av .shr a_, av .shr k_] mem0 = some (Res.res y, m) := by
  refine start_fn (Try.f33.body.getD .skip) [.tmp 4] rfl rfl Try.func33 (by kernel_rfl) (by kernel_rfl) (by simp [Try.ntmps33]) rfl ?_
  unfold laws_heldHeapS at hp
  simp [Try.f33]
  obtain ⟨r_29, h_30, hp⟩ := bind_some hp
  obtain ⟨I_3, I_3_⟩ : ∃ I : Int × Int → St → Prop, I = (fun (s_1 : Int × Int) (σ : St) => σ.env 0 = .one (.l .shr a_.length (encL a_)) ∧ σ.env 1 = .one (.s (.int .i64 s_1.1)) ∧ σ.env 5 = .one (.s (.int .i64 s_1.2)) ∧ σ.mem = mem0) := ⟨_, rfl⟩
  obtain ⟨X_4, X_4_⟩ : ∃ X : ((Int) ⊕ (Int)) → Out → Prop, X = (fun (r_29 : (Int) ⊕ (Int)) (out : Out) => Sum.elim (fun r_29 => ∃ σ : St, out = .ret σ ∧ σ.env 4 = .one (.s (.int .i64 r_29)) ∧ σ.mem = mem0) (fun r_29 => ∃ σ : St, out = .exit 0 σ ∧ σ.env 1 = .one (.s (.int .i64 r_29)) ∧ σ.mem = mem0) r_29) := ⟨_, rfl⟩
  refine loopP ({ hd := [0, 1, 5], bx := [], ex := [1], rt := [4] }) I_3 X_4 h_30 (by exact rfl) ?_ ?_ ?_
  · rw [I_3_]
    refine ⟨?_, ?_, ?_, ?_⟩ <;> simp [restrict_env, restrict_mem]
  · intro s_1 σ_5 a_2 hI hp
    rw [I_3_] at hI
    obtain ⟨q_6, q_7, q_8, q_9⟩ := hI
    try simp [q_6, q_7, q_8, q_9]
    rcases cond_cases hp with ⟨h_10, hp⟩ | ⟨h_10, hp⟩
    · try simp at h_10
      obtain ⟨e_11, h_12, hp⟩ := bind_some hp
      have b_13 := at_lo h_12
      have b_14 := at_hi h_12
      try simp at b_13
      try simp at b_14
      have c_15 := seg_at' h_12 0 1 (by decide) (ds := [.sl e_11.vars.length (encL e_11.vars)]) rfl
      try simp at c_15
      obtain ⟨y_16, h_17, hp⟩ := bind_some hp
      have c_18 := C58_eq h_17
      simp at c_18
      try simp [q_6, q_7, q_8, q_9, h_10, b_13, b_14, c_15, c_18]
      rcases cond_cases hp with ⟨h_19, hp⟩ | ⟨h_19, hp⟩
      · try simp at h_19
        cases hp
        try simp [q_6, q_7, q_8, q_9, h_10, h_19]
        refine goal_outR ?_
        rw [X_4_]
        refine ⟨_, rfl, ?_, ?_⟩ <;> simp [restrict_env, restrict_mem, q_6, q_7, q_8, q_9, h_10, h_19]
      · try simp at h_19
        obtain ⟨e_20, h_21, hp⟩ := bind_some hp
        cases Option.some.inj (h_12.symm.trans h_21)
        have b_22 := at_lo h_12
        have b_23 := at_hi h_12
        try simp at b_22
        try simp at b_23
        have c_24 := seg_at' h_12 1 1 (by decide) (ds := [.sl e_11.next.length (encL e_11.next)]) rfl
        try simp at c_24
        obtain ⟨y_25, h_26, hp⟩ := bind_some hp
        have c_27 := C58_eq h_26
        simp at c_27
        try simp [q_6, q_7, q_8, q_9, h_10, h_19, b_22, b_23, c_24, c_27]
        rcases cond_cases hp with ⟨h_28, hp⟩ | ⟨h_28, hp⟩
        · try simp at h_28
          cases hp
          try simp [q_6, q_7, q_8, q_9, h_10, h_19, h_28]
          refine goal_outR ?_
          rw [X_4_]
          refine ⟨_, rfl, ?_, ?_⟩ <;> simp [restrict_env, restrict_mem, q_6, q_7, q_8, q_9, h_10, h_19, h_28]
        · try simp at h_28
          cases hp
          try simp [q_6, q_7, q_8, q_9, h_10, h_19, h_28]
          refine goal_next ?_
          rw [I_3_]
          refine ⟨?_, ?_, ?_, ?_⟩ <;> simp [restrict_env, restrict_mem, q_6, q_7, q_8, q_9, h_10, h_19, h_28]
    · try simp at h_10
      cases hp
      try simp [q_6, q_7, q_8, q_9, h_10]
      refine goal_outX ?_
      rw [X_4_]
      refine ⟨_, rfl, ?_, ?_⟩ <;> simp [restrict_env, restrict_mem, q_6, q_7, q_8, q_9, h_10]
  · intro out hX
    rw [X_4_] at hX
    rcases r_29 with r_29 | r_29
    · simp only [Sum.elim_inl, Sum.elim_inr] at hX hp
      obtain ⟨σ_31, rfl, q_32, q_33⟩ := hX
      cases hp
      simp [Goal, FnEnd, q_32, q_33]
    · simp only [Sum.elim_inl, Sum.elim_inr] at hX hp
      obtain ⟨σ_34, rfl, q_35, q_36⟩ := hX
      cases hp
      simp [Goal, FnEnd, q_35, q_36]
theorem pc33 : PC Try.prog 33 C33 := pc_of (g := g33) (ctxOK_of [(58, C58)] rfl ⟨pc58, trivial⟩) ⟨Try.f33, Try.func33, by kernel_rfl, by kernel_rfl⟩ fun x y h => w33 h

noncomputable def C6 : List AV → Option AV := specP (X := Int × (List TStructure) × Int × Unit) fun x => laws_FnExactSmallHeapsOf x.1 x.2.1 x.2.2.1
theorem C6_eq {aVars aSet aCells} {y} (h : laws_FnExactSmallHeapsOf aVars aSet aCells = some y) : C6 [av .shr aVars, av .shr aSet, av .shr aCells] = some (Res.res y) := specP_eq (X := Int × (List TStructure) × Int × Unit) (F := fun x => laws_FnExactSmallHeapsOf x.1 x.2.1 x.2.2.1) (x := (aVars, aSet, aCells, ())) h
noncomputable def g6 : Cfg := { P := Try.prog, take := [], keep := [((31, 2), rowKp), ((56, 2), rowKp), ((57, 2), rowKp), ((32, 2), rowKp)], gho := [((6, 13), [.many (thawSlot 1 9)]), ((6, 2000013), [.many (frzSlot 1 9)]), ((6, 17), [.many (thawSlot 1 10)]), ((6, 2000017), [.many (frzSlot 1 10)])], ctx := [(25, C25), (26, C26), (27, C27), (28, C28), (29, C29), (30, C30), (33, C33)] }
@[simp] theorem g6_P : g6.P = Try.prog := rfl
@[simp] theorem g6_t : g6.take = [] := rfl
@[simp] theorem g6_g : g6.gho = [((6, 13), [.many (thawSlot 1 9)]), ((6, 2000013), [.many (frzSlot 1 9)]), ((6, 17), [.many (thawSlot 1 10)]), ((6, 2000017), [.many (frzSlot 1 10)])] := rfl
@[simp] theorem g6_r : g6.ro = [] := rfl
@[simp] theorem g6_w : g6.away = [] := by rw [g6]
@[simp] theorem g6_25 : lookN 25 g6.ctx = some C25 := rfl
@[simp] theorem g6_26 : lookN 26 g6.ctx = some C26 := rfl
@[simp] theorem g6_27 : lookN 27 g6.ctx = some C27 := rfl
@[simp] theorem g6_28 : lookN 28 g6.ctx = some C28 := rfl
@[simp] theorem g6_29 : lookN 29 g6.ctx = some C29 := rfl
@[simp] theorem g6_30 : lookN 30 g6.ctx = some C30 := rfl
@[simp] theorem g6_33 : lookN 33 g6.ctx = some C33 := rfl
@[simp] theorem g6_31 : lookN 31 g6.ctx = none := rfl
@[simp] theorem g6_56 : lookN 56 g6.ctx = none := rfl
@[simp] theorem g6_57 : lookN 57 g6.ctx = none := rfl
@[simp] theorem g6_32 : lookN 32 g6.ctx = none := rfl
set_option maxHeartbeats 4000000 in
set_option maxRecDepth 100000 in
theorem w6 {aVars aSet aCells} {y} (hp : laws_FnExactSmallHeapsOf aVars aSet aCells = some y) : ∃ m, callo g6 0 6 [av .shr aVars, av .shr aSet, av .shr aCells] mem0 = some (Res.res y, m) := by
  have G_31 : G31 g6 := ⟨rfl, by kernel_rfl, rfl, fun t => by simp, noAway (fun t => by simp) (by simp), fun i => by simp [lookK], by simp [g6, lookK], by simp⟩
  have G_56 : G56 g6 := ⟨rfl, by kernel_rfl, rfl, fun t => by simp, noAway (fun t => by simp) (by simp), fun i => by simp [lookK], by simp [g6, lookK], by simp⟩
  have G_57 : G57 g6 := ⟨rfl, by kernel_rfl, rfl, fun t => by simp, noAway (fun t => by simp) (by simp), fun i => by simp [lookK], by simp [g6, lookK], by simp⟩
  have G_32 : G32 g6 := ⟨rfl, by kernel_rfl, rfl, fun t => by simp, noAway (fun t => by simp) (by simp), fun i => by simp [lookK], by simp [g6, lookK], by simp⟩
  refine start_fn (Try.f6.body.getD .skip) [.tmp 6] rfl rfl Try.func6 (by kernel_rfl) (by kernel_rfl) (by simp [Try.ntmps6]) rfl ?_
  unfold laws_FnExactSmallHeapsOf at hp
  obtain ⟨y_1, h_2, hp⟩ := bind_some hp
  have c_3 := C25_eq h_2
  simp at c_3
  simp [Try.f6, c_3]
  rcases cond_cases hp with ⟨h_4, hp⟩ | ⟨h_4, hp⟩
  · try simp at h_4
    cases hp
    simp [Goal, FnEnd, h_4]
  · try simp at h_4
    obtain ⟨y_5, h_6, hp⟩ := bind_some hp
    have c_7 := C27_eq h_6
    simp at c_7
    obtain ⟨y_8, h_9, hp⟩ := bind_some hp
    have c_10 := C26_eq h_9
    simp at c_10
    obtain ⟨y_11, h_12, hp⟩ := bind_some hp
    cases Option.some.inj (h_6.symm.trans h_12)
    obtain ⟨y_13, h_14, hp⟩ := bind_some hp
    have c_15 := C28_eq h_14
    simp at c_15
    obtain ⟨y_16, h_17, hp⟩ := bind_some hp
    have c_18 := C29_eq h_17
    simp at c_18
    try simp [h_4, c_7, c_10, c_7, c_15, c_18]
    rcases cond_cases hp with ⟨h_19, hp⟩ | ⟨h_19, hp⟩
    · try simp at h_19
      obtain ⟨y_20, h_21, hp⟩ := bind_some hp
      cases Option.some.inj (h_6.symm.trans h_21)
      obtain ⟨y_22, h_23, hp⟩ := bind_some hp
      have c_24 := C30_eq h_23
      simp at c_24
      try simp [h_4, h_19, c_7, c_24]
      rcases cond_cases hp with ⟨h_25, hp⟩ | ⟨h_25, hp⟩
      · try simp at h_25
        obtain ⟨r_26, h_27, hp⟩ := bind_some hp
        obtain ⟨lg_28, e_29⟩ := markO_eq h_27
        have mk_30 := mk31 G_31 G_56 G_57 y_5 1 lg_28
        rw [e_29] at mk_30
        try simp [h_4, h_19, h_25]
        refine goal_mark 9 11 40 41 42 31 mk_30 (by simp [h_4, h_19, h_25]) (fun _ => rfl) (by simp [h_4, h_19, h_25]) (WfE.wfE _) (WfE.wfE _) (fun key hkey => by simp [mem0, h_4, h_19, h_25]) (by simp) (by simp) (by simp) rfl (by decide) fun σ_31 qq_32 hq_33 hx_34 hk_35 he_36 hd_37 hm_38 => ?_
        obtain ⟨q_39, q_40, q_41, q_42, q_43, q_44, q_45, q_46, q_47, q_48, q_49, q_50, q_51, q_52, q_53, q_54, q_55, q_56, q_57, q_58, q_59, q_60, q_61, q_62, q_63, q_64⟩ : σ_31.env 0 = .one (.s (.int .i64 aVars)) ∧ σ_31.env 1 = .one (.l .shr aSet.length (encL aSet)) ∧ σ_31.env 2 = .one (.s (.int .i64 aCells)) ∧ σ_31.env 6 = .one (.s (.bool false)) ∧ σ_31.env 7 = .one (.s (.int .i64 y_1)) ∧ σ_31.env 8 = .one (.l .own y_8.length (encL y_8)) ∧ σ_31.env 9 = .one (.l .own r_26.1.length (encL r_26.1)) ∧ σ_31.env 10 = .one (.l .own y_13.length (encL y_13)) ∧ σ_31.env 11 = .one (.s (.int .i64 r_26.2)) ∧ σ_31.env 15 = .one (.l .shr aSet.length (encL aSet)) ∧ σ_31.env 16 = .one (.s (.int .i64 1048576)) ∧ σ_31.env 18 = .one (.s (.int .i64 y_1)) ∧ σ_31.env 19 = .one (.s (.bool (ltI y_1 0))) ∧ σ_31.env 20 = .one (.s (.int .i64 aVars)) ∧ σ_31.env 21 = .one (.l .shr aSet.length (encL aSet)) ∧ σ_31.env 22 = .one (.l .own y_5.length (encL y_5)) ∧ σ_31.env 23 = .one (.s (.int .i64 aCells)) ∧ σ_31.env 25 = .one (.l .shr aSet.length (encL aSet)) ∧ σ_31.env 27 = .one (.s (.int .i64 aVars)) ∧ σ_31.env 29 = .one (.s (.int .i64 aCells)) ∧ σ_31.env 33 = .one (.s (.bool y_16)) ∧ σ_31.env 34 = .one (.s (.bool (notB y_16))) ∧ σ_31.env 36 = .one (.l .shr aSet.length (encL aSet)) ∧ σ_31.env 37 = .one (.l .own y_5.length (encL y_5)) ∧ σ_31.env 38 = .one (.s (.bool y_22)) ∧ σ_31.env 39 = .one (.s (.bool (notB y_22))) := by refine ⟨(he_36 0 (by decide) (by decide) (by decide) (by decide) (by decide)).trans ?_, (he_36 1 (by decide) (by decide) (by decide) (by decide) (by decide)).trans ?_, (he_36 2 (by decide) (by decide) (by decide) (by decide) (by decide)).trans ?_, (he_36 6 (by decide) (by decide) (by decide) (by decide) (by decide)).trans ?_, (he_36 7 (by decide) (by decide) (by decide) (by decide) (by decide)).trans ?_, (he_36 8 (by decide) (by decide) (by decide) (by decide) (by decide)).trans ?_, hx_34.trans (by simp), (he_36 10 (by decide) (by decide) (by decide) (by decide) (by decide)).trans ?_, hk_35, (he_36 15 (by decide) (by decide) (by decide) (by decide) (by decide)).trans ?_, (he_36 16 (by decide) (by decide) (by decide) (by decide) (by decide)).trans ?_, (he_36 18 (by decide) (by decide) (by decide) (by decide) (by decide)).trans ?_, (he_36 19 (by decide) (by decide) (by decide) (by decide) (by decide)).trans ?_, (he_36 20 (by decide) (by decide) (by decide) (by decide) (by decide)).trans ?_, (he_36 21 (by decide) (by decide) (by decide) (by decide) (by decide)).trans ?_, (he_36 22 (by decide) (by decide) (by decide) (by decide) (by decide)).trans ?_, (he_36 23 (by decide) (by decide) (by decide) (by decide) (by decide)).trans ?_, (he_36 25 (by decide) (by decide) (by decide) (by decide) (by decide)).trans ?_, (he_36 27 (by decide) (by decide) (by decide) (by decide) (by decide)).trans ?_, (he_36 29 (by decide) (by decide) (by decide) (by decide) (by decide)).trans ?_, (he_36 33 (by decide) (by decide) (by decide) (by decide) (by decide)).trans ?_, (he_36 34 (by decide) (by decide) (by decide) (by decide) (by decide)).trans ?_, (he_36 36 (by decide) (by decide) (by decide) (by decide) (by decide)).trans ?_, (he_36 37 (by decide) (by decide) (by decide) (by decide) (by decide)).trans ?_, (he_36 38 (by decide) (by decide) (by decide) (by decide) (by decide)).trans ?_, (he_36 39 (by decide) (by decide) (by decide) (by decide) (by decide)).trans ?_⟩ <;> simp [h_4, h_19, h_25]
        have hn_65 : NoBox [] σ_31.mem := by
          intro key hk
          by_cases hl : 1 < key.1 ∨ bigK ≤ key.2
          · exact hd_37 key hl
          · rw [hm_38 key (by omega) (by omega)]
            simp at hk
            simp [mem0, hk, h_4, h_19, h_25]
        try simp [h_4, h_19, h_25, q_39, q_40, q_41, q_42, q_43, q_44, q_45, q_46, q_47, q_48, q_49, q_50, q_51, q_52, q_53, q_54, q_55, q_56, q_57, q_58, q_59, q_60, q_61, q_62, q_63, q_64]
        rcases cond_cases hp with ⟨h_66, hp⟩ | ⟨h_66, hp⟩
        · try simp at h_66
          cases hp
          simp [Goal, FnEnd, h_4, h_19, h_25, q_39, q_40, q_41, q_42, q_43, q_44, q_45, q_46, q_47, q_48, q_49, q_50, q_51, q_52, q_53, q_54, q_55, q_56, q_57, q_58, q_59, q_60, q_61, q_62, q_63, q_64, h_66]
        · try simp at h_66
          obtain ⟨y_67, h_68, hp⟩ := bind_some hp
          have c_69 := C29_eq h_68
          simp at c_69
          try simp [h_4, h_19, h_25, q_39, q_40, q_41, q_42, q_43, q_44, q_45, q_46, q_47, q_48, q_49, q_50, q_51, q_52, q_53, q_54, q_55, q_56, q_57, q_58, q_59, q_60, q_61, q_62, q_63, q_64, h_66, c_69]
          rcases cond_cases hp with ⟨h_70, hp⟩ | ⟨h_70, hp⟩
          · try simp at h_70
            obtain ⟨r_71, h_72, hp⟩ := bind_some hp
            obtain ⟨lg_73, e_74⟩ := markO_eq h_72
            have mk_75 := mk32 G_32 G_57 y_13 1 lg_73
            rw [e_74] at mk_75
            try simp [h_4, h_19, h_25, q_39, q_40, q_41, q_42, q_43, q_44, q_45, q_46, q_47, q_48, q_49, q_50, q_51, q_52, q_53, q_54, q_55, q_56, q_57, q_58, q_59, q_60, q_61, q_62, q_63, q_64, h_66, h_70]
            refine goal_mark 10 12 51 52 53 32 mk_75 (by simp [h_4, h_19, h_25, q_39, q_40, q_41, q_42, q_43, q_44, q_45, q_46, q_47, q_48, q_49, q_50, q_51, q_52, q_53, q_54, q_55, q_56, q_57, q_58, q_59, q_60, q_61, q_62, q_63, q_64, h_66, h_70]) (fun _ => rfl) (by simp [h_4, h_19, h_25, q_39, q_40, q_41, q_42, q_43, q_44, q_45, q_46, q_47, q_48, q_49, q_50, q_51, q_52, q_53, q_54, q_55, q_56, q_57, q_58, q_59, q_60, q_61, q_62, q_63, q_64, h_66, h_70]) (WfE.wfE _) (WfE.wfE _) (fun key hkey => by simp [mem0, h_4, h_19, h_25, q_39, q_40, q_41, q_42, q_43, q_44, q_45, q_46, q_47, q_48, q_49, q_50, q_51, q_52, q_53, q_54, q_55, q_56, q_57, q_58, q_59, q_60, q_61, q_62, q_63, q_64, h_66, h_70, hn_65 key (by simp)]) (by simp) (by simp) (by simp) rfl (by decide) fun σ_76 qq_77 hq_78 hx_79 hk_80 he_81 hd_82 hm_83 => ?_
            obtain ⟨q_84, q_85, q_86, q_87, q_88, q_89, q_90, q_91, q_92, q_93, q_94, q_95, q_96, q_97, q_98, q_99, q_100, q_101, q_102, q_103, q_104, q_105, q_106, q_107, q_108, q_109, q_110, q_111, q_112, q_113, q_114, q_115, q_116⟩ : σ_76.env 0 = .one (.s (.int .i64 aVars)) ∧ σ_76.env 1 = .one (.l .shr aSet.length (encL aSet)) ∧ σ_76.env 2 = .one (.s (.int .i64 aCells)) ∧ σ_76.env 6 = .one (.s (.bool false)) ∧ σ_76.env 7 = .one (.s (.int .i64 y_1)) ∧ σ_76.env 8 = .one (.l .own y_8.length (encL y_8)) ∧ σ_76.env 9 = .one (.l .own r_26.1.length (encL r_26.1)) ∧ σ_76.env 10 = .one (.l .own r_71.1.length (encL r_71.1)) ∧ σ_76.env 11 = .one (.s (.int .i64 r_26.2)) ∧ σ_76.env 12 = .one (.s (.int .i64 r_71.2)) ∧ σ_76.env 15 = .one (.l .shr aSet.length (encL aSet)) ∧ σ_76.env 16 = .one (.s (.int .i64 1048576)) ∧ σ_76.env 18 = .one (.s (.int .i64 y_1)) ∧ σ_76.env 19 = .one (.s (.bool (ltI y_1 0))) ∧ σ_76.env 20 = .one (.s (.int .i64 aVars)) ∧ σ_76.env 21 = .one (.l .shr aSet.length (encL aSet)) ∧ σ_76.env 22 = .one (.l .own y_5.length (encL y_5)) ∧ σ_76.env 23 = .one (.s (.int .i64 aCells)) ∧ σ_76.env 25 = .one (.l .shr aSet.length (encL aSet)) ∧ σ_76.env 27 = .one (.s (.int .i64 aVars)) ∧ σ_76.env 29 = .one (.s (.int .i64 aCells)) ∧ σ_76.env 33 = .one (.s (.bool y_16)) ∧ σ_76.env 34 = .one (.s (.bool (notB y_16))) ∧ σ_76.env 36 = .one (.l .shr aSet.length (encL aSet)) ∧ σ_76.env 37 = .one (.l .own y_5.length (encL y_5)) ∧ σ_76.env 38 = .one (.s (.bool y_22)) ∧ σ_76.env 39 = .one (.s (.bool (notB y_22))) ∧ σ_76.env 43 = .one (.s (.int .i64 r_26.2)) ∧ σ_76.env 44 = .one (.s (.bool (ltI r_26.2 0))) ∧ σ_76.env 45 = .one (.s (.bool (ltI r_26.2 0))) ∧ σ_76.env 48 = .one (.s (.bool y_67)) ∧ σ_76.env 49 = .one (.s (.bool (notB y_67))) ∧ σ_76.env 50 = .one (.s (.bool (notB y_67))) := by refine ⟨(he_81 0 (by decide) (by decide) (by decide) (by decide) (by decide)).trans ?_, (he_81 1 (by decide) (by decide) (by decide) (by decide) (by decide)).trans ?_, (he_81 2 (by decide) (by decide) (by decide) (by decide) (by decide)).trans ?_, (he_81 6 (by decide) (by decide) (by decide) (by decide) (by decide)).trans ?_, (he_81 7 (by decide) (by decide) (by decide) (by decide) (by decide)).trans ?_, (he_81 8 (by decide) (by decide) (by decide) (by decide) (by decide)).trans ?_, (he_81 9 (by decide) (by decide) (by decide) (by decide) (by decide)).trans ?_, hx_79.trans (by simp), (he_81 11 (by decide) (by decide) (by decide) (by decide) (by decide)).trans ?_, hk_80, (he_81 15 (by decide) (by decide) (by decide) (by decide) (by decide)).trans ?_, (he_81 16 (by decide) (by decide) (by decide) (by decide) (by decide)).trans ?_, (he_81 18 (by decide) (by decide) (by decide) (by decide) (by decide)).trans ?_, (he_81 19 (by decide) (by decide) (by decide) (by decide) (by decide)).trans ?_, (he_81 20 (by decide) (by decide) (by decide) (by decide) (by decide)).trans ?_, (he_81 21 (by decide) (by decide) (by decide) (by decide) (by decide)).trans ?_, (he_81 22 (by decide) (by decide) (by decide) (by decide) (by decide)).trans ?_, (he_81 23 (by decide) (by decide) (by decide) (by decide) (by decide)).trans ?_, (he_81 25 (by decide) (by decide) (by decide) (by decide) (by decide)).trans ?_, (he_81 27 (by decide) (by decide) (by decide) (by decide) (by decide)).trans ?_, (he_81 29 (by decide) (by decide) (by decide) (by decide) (by decide)).trans ?_, (he_81 33 (by decide) (by decide) (by decide) (by decide) (by decide)).trans ?_, (he_81 34 (by decide) (by decide) (by decide) (by decide) (by decide)).trans ?_, (he_81 36 (by decide) (by decide) (by decide) (by decide) (by decide)).trans ?_, (he_81 37 (by decide) (by decide) (by decide) (by decide) (by decide)).trans ?_, (he_81 38 (by decide) (by decide) (by decide) (by decide) (by decide)).trans ?_, (he_81 39 (by decide) (by decide) (by decide) (by decide) (by decide)).trans ?_, (he_81 43 (by decide) (by decide) (by decide) (by decide) (by decide)).trans ?_, (he_81 44 (by decide) (by decide) (by decide) (by decide) (by decide)).trans ?_, (he_81 45 (by decide) (by decide) (by decide) (by decide) (by decide)).trans ?_, (he_81 48 (by decide) (by decide) (by decide) (by decide) (by decide)).trans ?_, (he_81 49 (by decide) (by decide) (by decide) (by decide) (by decide)).trans ?_, (he_81 50 (by decide) (by decide) (by decide) (by decide) (by decide)).trans ?_⟩ <;> simp [h_4, h_19, h_25, q_39, q_40, q_41, q_42, q_43, q_44, q_45, q_46, q_47, q_48, q_49, q_50, q_51, q_52, q_53, q_54, q_55, q_56, q_57, q_58, q_59, q_60, q_61, q_62, q_63, q_64, h_66, h_70]
            have hn_117 : NoBox [] σ_76.mem := by
              intro key hk
              by_cases hl : 1 < key.1 ∨ bigK ≤ key.2
              · exact hd_82 key hl
              · rw [hm_83 key (by omega) (by omega)]
                simp at hk
                simp [mem0, hk, h_4, h_19, h_25, q_39, q_40, q_41, q_42, q_43, q_44, q_45, q_46, q_47, q_48, q_49, q_50, q_51, q_52, q_53, q_54, q_55, q_56, q_57, q_58, q_59, q_60, q_61, q_62, q_63, q_64, h_66, h_70, hn_65 key (by simp [hk])]
            obtain ⟨y_118, h_119, hp⟩ := bind_some hp
            have c_120 := C33_eq h_119
            simp at c_120
            try simp [h_4, h_19, h_25, h_66, h_70, q_84, q_85, q_86, q_87, q_88, q_89, q_90, q_91, q_92, q_93, q_94, q_95, q_96, q_97, q_98, q_99, q_100, q_101, q_102, q_103, q_104, q_105, q_106, q_107, q_108, q_109, q_110, q_111, q_112, q_113, q_114, q_115, q_116, c_120]
            rcases cond_cases hp with ⟨h_121, hp⟩ | ⟨h_121, hp⟩
            · try simp at h_121
              cases hp
              simp [Goal, FnEnd, h_4, h_19, h_25, h_66, h_70, q_84, q_85, q_86, q_87, q_88, q_89, q_90, q_91, q_92, q_93, q_94, q_95, q_96, q_97, q_98, q_99, q_100, q_101, q_102, q_103, q_104, q_105, q_106, q_107, q_108, q_109, q_110, q_111, q_112, q_113, q_114, q_115, q_116, h_121]
            · try simp at h_121
              try simp [h_4, h_19, h_25, h_66, h_70, q_84, q_85, q_86, q_87, q_88, q_89, q_90, q_91, q_92, q_93, q_94, q_95, q_96, q_97, q_98, q_99, q_100, q_101, q_102, q_103, q_104, q_105, q_106, q_107, q_108, q_109, q_110, q_111, q_112, q_113, q_114, q_115, q_116, h_121]
              rcases cond_cases hp with ⟨h_122, hp⟩ | ⟨h_122, hp⟩
              · try simp at h_122
                cases hp
                simp [Goal, FnEnd, h_4, h_19, h_25, h_66, h_70, q_84, q_85, q_86, q_87, q_88, q_89, q_90, q_91, q_92, q_93, q_94, q_95, q_96, q_97, q_98, q_99, q_100, q_101, q_102, q_103, q_104, q_105, q_106, q_107, q_108, q_109, q_110, q_111, q_112, q_113, q_114, q_115, q_116, h_121, h_122]
              · try simp at h_122
                obtain ⟨y_123, h_124, hp⟩ := bind_some hp
                have c_125 := C27_eq h_124
                simp at c_125
                obtain ⟨y_126, h_127, hp⟩ := bind_some hp
                have c_128 := C28_eq h_127
                simp at c_128
                obtain ⟨y_129, h_130, hp⟩ := bind_some hp
                have c_131 := C29_eq h_130
                simp at c_131
                try simp [h_4, h_19, h_25, h_66, h_70, q_84, q_85, q_86, q_87, q_88, q_89, q_90, q_91, q_92, q_93, q_94, q_95, q_96, q_97, q_98, q_99, q_100, q_101, q_102, q_103, q_104, q_105, q_106, q_107, q_108, q_109, q_110, q_111, q_112, q_113, q_114, q_115, q_116, h_121, h_122, c_125, c_128, c_131]
                rcases cond_cases hp with ⟨h_132, hp⟩ | ⟨h_132, hp⟩
                · try simp at h_132
                  obtain ⟨y_133, h_134, hp⟩ := bind_some hp
                  cases Option.some.inj (h_119.symm.trans h_134)
                  cases hp
                  simp [Goal, FnEnd, h_4, h_19, h_25, h_66, h_70, q_84, q_85, q_86, q_87, q_88, q_89, q_90, q_91, q_92, q_93, q_94, q_95, q_96, q_97, q_98, q_99, q_100, q_101, q_102, q_103, q_104, q_105, q_106, q_107, q_108, q_109, q_110, q_111, q_112, q_113, q_114, q_115, q_116, h_121, h_122, h_132, c_120]
                · try simp at h_132
                  cases hp
                  simp [Goal, FnEnd, h_4, h_19, h_25, h_66, h_70, q_84, q_85, q_86, q_87, q_88, q_89, q_90, q_91, q_92, q_93, q_94, q_95, q_96, q_97, q_98, q_99, q_100, q_101, q_102, q_103, q_104, q_105, q_106, q_107, q_108, q_109, q_110, q_111, q_112, q_113, q_114, q_115, q_116, h_121, h_122, h_132]
          · try simp at h_70
            cases hp
            simp [Goal, FnEnd, h_4, h_19, h_25, q_39, q_40, q_41, q_42, q_43, q_44, q_45, q_46, q_47, q_48, q_49, q_50, q_51, q_52, q_53, q_54, q_55, q_56, q_57, q_58, q_59, q_60, q_61, q_62, q_63, q_64, h_66, h_70]
      · try simp at h_25
        cases hp
        simp [Goal, FnEnd, h_4, h_19, h_25]
    · try simp at h_19
      cases hp
      simp [Goal, FnEnd, h_4, h_19]
theorem pc6 : PC Try.prog 6 C6 := pc_of (g := g6) (ctxOK_of [(25, C25), (26, C26), (27, C27), (28, C28), (29, C29), (30, C30), (33, C33)] rfl ⟨pc25, pc26, pc27, pc28, pc29, pc30, pc33, trivial⟩) ⟨Try.f6, Try.func6, by kernel_rfl, by kernel_rfl⟩ fun x y h => w6 h
end Go.Proofs

