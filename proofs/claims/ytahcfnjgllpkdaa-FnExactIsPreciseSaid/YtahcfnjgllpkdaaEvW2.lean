import Derived.Test.YtahcfnjgllpkdaaEvW1
set_option linter.unusedSimpArgs false
set_option linter.unusedVariables false
set_option linter.unnecessarySimpa false
namespace Go.Proofs
open Go.Ev
noncomputable def C98 : List AV → Option AV := specP (X := Int × Unit) fun x => spec_IsTruth x.1
theorem C98_eq {a_} {y} (h : spec_IsTruth a_ = some y) : C98 [av .shr a_] = some (Res.res y) := specP_eq (X := Int × Unit) (F := fun x => spec_IsTruth x.1) (x := (a_, ())) h
noncomputable def g98 : Cfg := { P := Try.prog, take := [], keep := [], gho := [], ctx := [(45, C45)] }
@[simp] theorem g98_P : g98.P = Try.prog := rfl
@[simp] theorem g98_t : g98.take = [] := rfl
@[simp] theorem g98_g : g98.gho = [] := rfl
@[simp] theorem g98_45 : lookN 45 g98.ctx = some C45 := rfl
set_option maxHeartbeats 4000000 in
set_option maxRecDepth 100000 in
theorem w98 {a_} {y} (hp : spec_IsTruth a_ = some y) : ∃ m, callo g98 0 98 [av .shr a_] mem0 = some (Res.res y, m) := by
  refine start_fn (Try.f98.body.getD .skip) [.tmp 2] rfl rfl Try.func98 (by kernel_rfl) (by kernel_rfl) (by simp [Try.ntmps98]) rfl ?_
  unfold spec_IsTruth at hp
  obtain ⟨y_1, h_2, hp⟩ := bind_some hp
  have c_3 := C45_eq h_2
  simp at c_3
  cases hp
  simp [Try.f98, Goal, FnEnd, c_3]
theorem pc98 : PC Try.prog 98 C98 := pc_of (g := g98) (ctxOK_of [(45, C45)] rfl ⟨pc45, trivial⟩) ⟨Try.f98, Try.func98, by kernel_rfl, by kernel_rfl⟩ fun x y h => w98 h

noncomputable def C180 : List AV → Option AV := specP (X := Int × Int × Unit) fun x => spec_IsWithin x.1 x.2.1
theorem C180_eq {a_ b_} {y} (h : spec_IsWithin a_ b_ = some y) : C180 [av .shr a_, av .shr b_] = some (Res.res y) := specP_eq (X := Int × Int × Unit) (F := fun x => spec_IsWithin x.1 x.2.1) (x := (a_, b_, ())) h
noncomputable def g180 : Cfg := { P := Try.prog, take := [], keep := [], gho := [], ctx := [(98, C98)] }
@[simp] theorem g180_P : g180.P = Try.prog := rfl
@[simp] theorem g180_t : g180.take = [] := rfl
@[simp] theorem g180_g : g180.gho = [] := rfl
@[simp] theorem g180_98 : lookN 98 g180.ctx = some C98 := rfl
set_option maxHeartbeats 4000000 in
set_option maxRecDepth 100000 in
theorem w180 {a_ b_} {y} (hp : spec_IsWithin a_ b_ = some y) : ∃ m, callo g180 0 180 [av .shr a_, av .shr b_] mem0 = some (Res.res y, m) := by
  refine start_fn (Try.f180.body.getD .skip) [.tmp 4] rfl rfl Try.func180 (by kernel_rfl) (by kernel_rfl) (by simp [Try.ntmps180]) rfl ?_
  unfold spec_IsWithin at hp
  obtain ⟨y_1, h_2, hp⟩ := bind_some hp
  have c_3 := C98_eq h_2
  simp at c_3
  simp [Try.f180, c_3]
  rcases cond_cases hp with ⟨h_4, hp⟩ | ⟨h_4, hp⟩
  · try simp at h_4
    obtain ⟨y_5, h_6, hp⟩ := bind_some hp
    have c_7 := C98_eq h_6
    simp at c_7
    try simp [h_4, c_7]
    rcases cond_cases hp with ⟨h_8, hp⟩ | ⟨h_8, hp⟩
    · try simp at h_8
      try simp [h_4, h_8]
      rcases cond_cases hp with ⟨h_9, hp⟩ | ⟨h_9, hp⟩
      · try simp at h_9
        cases hp
        simp [Goal, FnEnd, h_4, h_8, h_9]
      · try simp at h_9
        cases hp
        simp [Goal, FnEnd, h_4, h_8, h_9]
    · try simp at h_8
      cases hp
      simp [Goal, FnEnd, h_4, h_8]
  · try simp at h_4
    cases hp
    simp [Goal, FnEnd, h_4]
theorem pc180 : PC Try.prog 180 C180 := pc_of (g := g180) (ctxOK_of [(98, C98)] rfl ⟨pc98, trivial⟩) ⟨Try.f180, Try.func180, by kernel_rfl, by kernel_rfl⟩ fun x y h => w180 h

noncomputable def C186 : List AV → Option AV := specP (X := (List Int) × (List Int) × Unit) fun x => spec_l16Lists x.1 x.2.1
theorem C186_eq {a_ b_} {y} (h : spec_l16Lists a_ b_ = some y) : C186 [av .shr a_, av .shr b_] = some (Res.res y) := specP_eq (X := (List Int) × (List Int) × Unit) (F := fun x => spec_l16Lists x.1 x.2.1) (x := (a_, b_, ())) h
noncomputable def g186 : Cfg := { P := Try.prog, take := [], keep := [((186, 4), { hd := [0, 1, 5], bx := [], ex := [], rt := [4] })], gho := [], ctx := [(180, C180)] }
@[simp] theorem g186_P : g186.P = Try.prog := rfl
@[simp] theorem g186_t : g186.take = [] := rfl
@[simp] theorem g186_g : g186.gho = [] := rfl
@[simp] theorem g186_180 : lookN 180 g186.ctx = some C180 := rfl
set_option maxHeartbeats 4000000 in
set_option maxRecDepth 100000 in
theorem w186 {a_ b_} {y} (hp : spec_l16Lists a_ b_ = some y) : ∃ m, callo g186 0 186 [av .shr a_, av .shr b_] mem0 = some (Res.res y, m) := by
  refine start_fn (Try.f186.body.getD .skip) [.tmp 4] rfl rfl Try.func186 (by kernel_rfl) (by kernel_rfl) (by simp [Try.ntmps186]) rfl ?_
  unfold spec_l16Lists at hp
  simp [Try.f186]
  rcases cond_cases hp with ⟨h_1, hp⟩ | ⟨h_1, hp⟩
  · try simp at h_1
    cases hp
    simp [Goal, FnEnd, h_1]
  · try simp at h_1
    try simp [h_1]
    obtain ⟨r_26, h_27, hp⟩ := bind_some hp
    obtain ⟨I_4, I_4_⟩ : ∃ I : Int → St → Prop, I = (fun (s_2 : Int) (σ : St) => σ.env 0 = .one (.l .shr a_.length (encL a_)) ∧ σ.env 1 = .one (.l .shr b_.length (encL b_)) ∧ σ.env 5 = .one (.s (.int .i64 s_2)) ∧ σ.mem = mem0) := ⟨_, rfl⟩
    obtain ⟨X_5, X_5_⟩ : ∃ X : ((Unit) ⊕ (Unit)) → Out → Prop, X = (fun (r_26 : (Unit) ⊕ (Unit)) (out : Out) => Sum.elim (fun r_26 => ∃ σ : St, out = .ret σ ∧ σ.env 4 = .one (.s (.bool false)) ∧ σ.mem = mem0) (fun r_26 => ∃ σ : St, out = .exit 0 σ ∧ σ.mem = mem0) r_26) := ⟨_, rfl⟩
    refine loopP ({ hd := [0, 1, 5], bx := [], ex := [], rt := [4] }) I_4 X_5 h_27 (by exact rfl) ?_ ?_ ?_
    · rw [I_4_]
      exact ⟨by simp [restrict_env, h_1], by simp [restrict_env, h_1], by simp [restrict_env, h_1], by simp [restrict_mem, h_1]⟩
    · intro s_2 σ_6 a_3 hI hp
      rw [I_4_] at hI
      obtain ⟨q_7, q_8, q_9, q_10⟩ := hI
      try simp [h_1, q_7, q_8, q_9, q_10]
      rcases cond_cases hp with ⟨h_11, hp⟩ | ⟨h_11, hp⟩
      · try simp at h_11
        obtain ⟨e_12, h_13, hp⟩ := bind_some hp
        have b_14 := at_lo h_13
        have b_15 := at_hi h_13
        try simp at b_14
        try simp at b_15
        have c_16 := seg_at' h_13 0 1 (by decide) (ds := [.sc (.int .i64 e_12)]) rfl
        try simp at c_16
        obtain ⟨e_17, h_18, hp⟩ := bind_some hp
        have b_19 := at_lo h_18
        have b_20 := at_hi h_18
        try simp at b_19
        try simp at b_20
        have c_21 := seg_at' h_18 0 1 (by decide) (ds := [.sc (.int .i64 e_17)]) rfl
        try simp at c_21
        obtain ⟨y_22, h_23, hp⟩ := bind_some hp
        have c_24 := C180_eq h_23
        simp at c_24
        try simp [h_1, q_7, q_8, q_9, q_10, h_11, b_14, b_15, c_16, b_19, b_20, c_21, c_24]
        rcases cond_cases hp with ⟨h_25, hp⟩ | ⟨h_25, hp⟩
        · try simp at h_25
          cases hp
          try simp [h_1, q_7, q_8, q_9, q_10, h_11, h_25]
          refine goal_next ?_
          rw [I_4_]
          exact ⟨by simp [restrict_env, h_1, q_7, q_8, q_9, q_10, h_11, h_25], by simp [restrict_env, h_1, q_7, q_8, q_9, q_10, h_11, h_25], by simp [restrict_env, h_1, q_7, q_8, q_9, q_10, h_11, h_25], by simp [restrict_mem, h_1, q_7, q_8, q_9, q_10, h_11, h_25]⟩
        · try simp at h_25
          cases hp
          try simp [h_1, q_7, q_8, q_9, q_10, h_11, h_25]
          refine goal_outR ?_
          rw [X_5_]
          exact ⟨_, rfl, by simp [restrict_env, h_1, q_7, q_8, q_9, q_10, h_11, h_25], by simp [restrict_mem, h_1, q_7, q_8, q_9, q_10, h_11, h_25]⟩
      · try simp at h_11
        cases hp
        try simp [h_1, q_7, q_8, q_9, q_10, h_11]
        refine goal_outX ?_
        rw [X_5_]
        exact ⟨_, rfl, by simp [restrict_mem, h_1, q_7, q_8, q_9, q_10, h_11]⟩
    · intro out hX
      rw [X_5_] at hX
      rcases r_26 with r_26 | r_26
      · simp only [Sum.elim_inl, Sum.elim_inr] at hX hp
        obtain ⟨σ_28, rfl, q_29, q_30⟩ := hX
        cases hp
        simp [Goal, FnEnd, h_1, q_29, q_30]
      · simp only [Sum.elim_inl, Sum.elim_inr] at hX hp
        obtain ⟨σ_31, rfl, q_32⟩ := hX
        cases hp
        simp [Goal, FnEnd, h_1, q_32]
theorem pc186 : PC Try.prog 186 C186 := pc_of (g := g186) (ctxOK_of [(180, C180)] rfl ⟨pc180, trivial⟩) ⟨Try.f186, Try.func186, by kernel_rfl, by kernel_rfl⟩ fun x y h => w186 h

noncomputable def C179 : List AV → Option AV := specP (X := TNode × TNode × Unit) fun x => spec_l16Node x.1 x.2.1
theorem C179_eq {x_ y_} {y} (h : spec_l16Node x_ y_ = some y) : C179 [av .shr x_, av .shr y_] = some (Res.res y) := specP_eq (X := TNode × TNode × Unit) (F := fun x => spec_l16Node x.1 x.2.1) (x := (x_, y_, ())) h
noncomputable def g179 : Cfg := { P := Try.prog, take := [], keep := [], gho := [], ctx := [(180, C180), (186, C186)] }
@[simp] theorem g179_P : g179.P = Try.prog := rfl
@[simp] theorem g179_t : g179.take = [] := rfl
@[simp] theorem g179_g : g179.gho = [] := rfl
@[simp] theorem g179_180 : lookN 180 g179.ctx = some C180 := rfl
@[simp] theorem g179_186 : lookN 186 g179.ctx = some C186 := rfl
set_option maxHeartbeats 4000000 in
set_option maxRecDepth 100000 in
theorem w179 {x_ y_} {y} (hp : spec_l16Node x_ y_ = some y) : ∃ m, callo g179 0 179 [av .shr x_, av .shr y_] mem0 = some (Res.res y, m) := by
  refine start_fn (Try.f179.body.getD .skip) [.tmp 4] rfl rfl Try.func179 (by kernel_rfl) (by kernel_rfl) (by simp [Try.ntmps179]) rfl ?_
  unfold spec_l16Node at hp
  obtain ⟨y_1, h_2, hp⟩ := bind_some hp
  have c_3 := C186_eq h_2
  simp at c_3
  simp [Try.f179, c_3]
  rcases cond_cases hp with ⟨h_4, hp⟩ | ⟨h_4, hp⟩
  · try simp at h_4
    obtain ⟨y_5, h_6, hp⟩ := bind_some hp
    have c_7 := C186_eq h_6
    simp at c_7
    try simp [h_4, c_7]
    rcases cond_cases hp with ⟨h_8, hp⟩ | ⟨h_8, hp⟩
    · try simp at h_8
      obtain ⟨y_9, h_10, hp⟩ := bind_some hp
      have c_11 := C180_eq h_10
      simp at c_11
      try simp [h_4, h_8, c_11]
      rcases cond_cases hp with ⟨h_12, hp⟩ | ⟨h_12, hp⟩
      · try simp at h_12
        obtain ⟨y_13, h_14, hp⟩ := bind_some hp
        have c_15 := C180_eq h_14
        simp at c_15
        cases hp
        simp [Goal, FnEnd, h_4, h_8, h_12, c_15]
      · try simp at h_12
        cases hp
        simp [Goal, FnEnd, h_4, h_8, h_12]
    · try simp at h_8
      cases hp
      simp [Goal, FnEnd, h_4, h_8]
  · try simp at h_4
    cases hp
    simp [Goal, FnEnd, h_4]
theorem pc179 : PC Try.prog 179 C179 := pc_of (g := g179) (ctxOK_of [(180, C180), (186, C186)] rfl ⟨pc180, pc186, trivial⟩) ⟨Try.f179, Try.func179, by kernel_rfl, by kernel_rfl⟩ fun x y h => w179 h

noncomputable def C72 : List AV → Option AV := specP (X := TStructure × Int × Int × Unit) fun x => spec_NextOf x.1 x.2.1 x.2.2.1
theorem C72_eq {s i j} {y} (h : spec_NextOf s i j = some y) : C72 [av .shr s, av .shr i, av .shr j] = some (Res.res y) := specP_eq (X := TStructure × Int × Int × Unit) (F := fun x => spec_NextOf x.1 x.2.1 x.2.2.1) (x := (s, i, j, ())) h
noncomputable def g72 : Cfg := { P := Try.prog, take := [], keep := [], gho := [], ctx := [(45, C45)] }
@[simp] theorem g72_P : g72.P = Try.prog := rfl
@[simp] theorem g72_t : g72.take = [] := rfl
@[simp] theorem g72_g : g72.gho = [] := rfl
@[simp] theorem g72_45 : lookN 45 g72.ctx = some C45 := rfl
set_option maxHeartbeats 4000000 in
set_option maxRecDepth 100000 in
theorem w72 {s i j} {y} (hp : spec_NextOf s i j = some y) : ∃ m, callo g72 0 72 [av .shr s, av .shr i, av .shr j] mem0 = some (Res.res y, m) := by
  refine start_fn (Try.f72.body.getD .skip) [.tmp 6] rfl rfl Try.func72 (by kernel_rfl) (by kernel_rfl) (by simp [Try.ntmps72]) rfl ?_
  unfold spec_NextOf at hp
  obtain ⟨y_1, h_2, hp⟩ := bind_some hp
  have c_3 := C45_eq h_2
  simp at c_3
  simp [Try.f72, c_3]
  rcases cond_cases hp with ⟨h_4, hp⟩ | ⟨h_4, hp⟩
  · try simp at h_4
    obtain ⟨y_5, h_6, hp⟩ := bind_some hp
    have c_7 := C45_eq h_6
    simp at c_7
    try simp [h_4, c_7]
    rcases cond_cases hp with ⟨h_8, hp⟩ | ⟨h_8, hp⟩
    · try simp at h_8
      try simp [h_4, h_8]
      rcases cond_cases hp with ⟨h_9, hp⟩ | ⟨h_9, hp⟩
      · try simp at h_9
        cases hp
        simp [Goal, FnEnd, h_4, h_8, h_9]
      · try simp at h_9
        obtain ⟨e_10, h_11, hp⟩ := bind_some hp
        have b_12 := at_lo h_11
        have b_13 := at_hi h_11
        try simp at b_12
        try simp at b_13
        have c_14 := seg_at' h_11 0 1 (by decide) (ds := [.sc (.int .i64 e_10)]) rfl
        try simp at c_14
        cases hp
        simp [Goal, FnEnd, h_4, h_8, h_9, b_12, b_13, c_14]
    · try simp at h_8
      cases hp
      simp [Goal, FnEnd, h_4, h_8]
  · try simp at h_4
    cases hp
    simp [Goal, FnEnd, h_4]
theorem pc72 : PC Try.prog 72 C72 := pc_of (g := g72) (ctxOK_of [(45, C45)] rfl ⟨pc45, trivial⟩) ⟨Try.f72, Try.func72, by kernel_rfl, by kernel_rfl⟩ fun x y h => w72 h

noncomputable def C165 : List AV → Option AV := specP (X := TStructure × TStructure × (List Int) × Unit) fun x => spec_l16Fits x.1 x.2.1 x.2.2.1
theorem C165_eq {s t to_} {y} (h : spec_l16Fits s t to_ = some y) : C165 [av .shr s, av .shr t, av .shr to_] = some (Res.res y) := specP_eq (X := TStructure × TStructure × (List Int) × Unit) (F := fun x => spec_l16Fits x.1 x.2.1 x.2.2.1) (x := (s, t, to_, ())) h
noncomputable def g165 : Cfg := { P := Try.prog, take := [], keep := [((165, 5), { hd := [2, 3, 4, 7, 8], bx := [], ex := [], rt := [6] })], gho := [], ctx := [(72, C72), (179, C179), (180, C180)] }
@[simp] theorem g165_P : g165.P = Try.prog := rfl
@[simp] theorem g165_t : g165.take = [] := rfl
@[simp] theorem g165_g : g165.gho = [] := rfl
@[simp] theorem g165_72 : lookN 72 g165.ctx = some C72 := rfl
@[simp] theorem g165_179 : lookN 179 g165.ctx = some C179 := rfl
@[simp] theorem g165_180 : lookN 180 g165.ctx = some C180 := rfl
set_option maxHeartbeats 4000000 in
set_option maxRecDepth 100000 in
theorem w165 {s t to_} {y} (hp : spec_l16Fits s t to_ = some y) : ∃ m, callo g165 0 165 [av .shr s, av .shr t, av .shr to_] mem0 = some (Res.res y, m) := by
  refine start_fn (Try.f165.body.getD .skip) [.tmp 6] rfl rfl Try.func165 (by kernel_rfl) (by kernel_rfl) (by simp [Try.ntmps165]) rfl ?_
  unfold spec_l16Fits at hp
  obtain ⟨e_1, h_2, hp⟩ := bind_some hp
  have b_3 := at_lo h_2
  have b_4 := at_hi h_2
  try simp at b_3
  try simp at b_4
  have c_5 := seg_at' h_2 0 4 (by decide) (ds := [.sl e_1.vars.length (encL e_1.vars), .sl e_1.reach.length (encL e_1.reach), .sc (.int .i64 e_1.shared), .sc (.int .i64 e_1.many)]) rfl
  try simp at c_5
  obtain ⟨e_6, h_7, hp⟩ := bind_some hp
  have b_8 := at_lo h_7
  have b_9 := at_hi h_7
  try simp at b_8
  try simp at b_9
  have c_10 := seg_at' h_7 0 1 (by decide) (ds := [.sc (.int .i64 e_6)]) rfl
  try simp at c_10
  obtain ⟨e_11, h_12, hp⟩ := bind_some hp
  have b_13 := at_lo h_12
  have b_14 := at_hi h_12
  try simp at b_13
  try simp at b_14
  have c_15 := seg_at' h_12 0 4 (by decide) (ds := [.sl e_11.vars.length (encL e_11.vars), .sl e_11.reach.length (encL e_11.reach), .sc (.int .i64 e_11.shared), .sc (.int .i64 e_11.many)]) rfl
  try simp at c_15
  obtain ⟨y_16, h_17, hp⟩ := bind_some hp
  have c_18 := C179_eq h_17
  simp at c_18
  simp [Try.f165, b_3, b_4, c_5, b_8, b_9, c_10, b_13, b_14, c_15, c_18]
  rcases cond_cases hp with ⟨h_19, hp⟩ | ⟨h_19, hp⟩
  · try simp at h_19
    try simp [h_19]
    obtain ⟨r_97, h_98, hp⟩ := bind_some hp
    obtain ⟨I_22, I_22_⟩ : ∃ I : Int → St → Prop, I = (fun (s_20 : Int) (σ : St) => σ.env 2 = .one (.l .shr to_.length (encL to_)) ∧ σ.env 3 = .one (.ptr (1, 3) 0) ∧ σ.env 4 = .one (.ptr (1, 4) 0) ∧ σ.env 7 = .one (.s (.int .i64 (subI (to_.length : Int) 1))) ∧ σ.env 8 = .one (.s (.int .i64 s_20)) ∧ σ.mem (1, 3) = some [(.l .shr s.nodes.length (encL s.nodes)), (.l .shr s.next.length (encL s.next))] ∧ σ.mem (1, 4) = some [(.l .shr t.nodes.length (encL t.nodes)), (.l .shr t.next.length (encL t.next))] ∧ NoBox [(1, 3), (1, 4)] σ.mem) := ⟨_, rfl⟩
    obtain ⟨X_23, X_23_⟩ : ∃ X : ((Unit) ⊕ (Unit)) → Out → Prop, X = (fun (r_97 : (Unit) ⊕ (Unit)) (out : Out) => Sum.elim (fun r_97 => ∃ σ : St, out = .ret σ ∧ σ.env 6 = .one (.s (.bool false)) ∧ σ.mem (1, 3) = some [(.l .shr s.nodes.length (encL s.nodes)), (.l .shr s.next.length (encL s.next))] ∧ σ.mem (1, 4) = some [(.l .shr t.nodes.length (encL t.nodes)), (.l .shr t.next.length (encL t.next))] ∧ NoBox [(1, 3), (1, 4)] σ.mem) (fun r_97 => ∃ σ : St, out = .exit 0 σ ∧ σ.mem (1, 3) = some [(.l .shr s.nodes.length (encL s.nodes)), (.l .shr s.next.length (encL s.next))] ∧ σ.mem (1, 4) = some [(.l .shr t.nodes.length (encL t.nodes)), (.l .shr t.next.length (encL t.next))] ∧ NoBox [(1, 3), (1, 4)] σ.mem) r_97) := ⟨_, rfl⟩
    refine loopP ({ hd := [2, 3, 4, 7, 8], bx := [], ex := [], rt := [6] }) I_22 X_23 h_98 (by exact rfl) ?_ ?_ ?_
    · rw [I_22_]
      exact ⟨by simp [restrict_env, h_19], by simp [restrict_env, h_19], by simp [restrict_env, h_19], by simp [restrict_env, h_19], by simp [restrict_env, h_19], by simp [restrict_mem, h_19], by simp [restrict_mem, h_19], NoBox.restrict (by intro k hk hb; simp at hk hb; simp [hk, hb, h_19])⟩
    · intro s_20 σ_24 a_21 hI hp
      rw [I_22_] at hI
      obtain ⟨q_25, q_26, q_27, q_28, q_29, q_30, q_31, hn_32⟩ := hI
      try simp [h_19, q_25, q_26, q_27, q_28, q_29, q_30, q_31]
      rcases cond_cases hp with ⟨h_33, hp⟩ | ⟨h_33, hp⟩
      · try simp at h_33
        obtain ⟨y_34, h_35, hp⟩ := bind_some hp
        have c_36 := C72_eq h_35
        simp at c_36
        obtain ⟨e_37, h_38, hp⟩ := bind_some hp
        cases Option.some.inj (h_7.symm.trans h_38)
        have b_39 := at_lo h_7
        have b_40 := at_hi h_7
        try simp at b_39
        try simp at b_40
        have c_41 := seg_at' h_7 0 1 (by decide) (ds := [.sc (.int .i64 e_6)]) rfl
        try simp at c_41
        obtain ⟨e_42, h_43, hp⟩ := bind_some hp
        have b_44 := at_lo h_43
        have b_45 := at_hi h_43
        try simp at b_44
        try simp at b_45
        have c_46 := seg_at' h_43 0 1 (by decide) (ds := [.sc (.int .i64 e_42)]) rfl
        try simp at c_46
        obtain ⟨y_47, h_48, hp⟩ := bind_some hp
        have c_49 := C72_eq h_48
        simp at c_49
        obtain ⟨y_50, h_51, hp⟩ := bind_some hp
        have c_52 := C180_eq h_51
        simp at c_52
        try simp [h_19, q_25, q_26, q_27, q_28, q_29, q_30, q_31, h_33, c_36, b_39, b_40, c_41, b_44, b_45, c_46, c_49, c_52]
        rcases cond_cases hp with ⟨h_53, hp⟩ | ⟨h_53, hp⟩
        · try simp at h_53
          obtain ⟨y_54, h_55, hp⟩ := bind_some hp
          have c_56 := C72_eq h_55
          simp at c_56
          obtain ⟨e_57, h_58, hp⟩ := bind_some hp
          cases Option.some.inj (h_43.symm.trans h_58)
          have b_59 := at_lo h_43
          have b_60 := at_hi h_43
          try simp at b_59
          try simp at b_60
          have c_61 := seg_at' h_43 0 1 (by decide) (ds := [.sc (.int .i64 e_42)]) rfl
          try simp at c_61
          obtain ⟨e_62, h_63, hp⟩ := bind_some hp
          cases Option.some.inj (h_7.symm.trans h_63)
          have b_64 := at_lo h_7
          have b_65 := at_hi h_7
          try simp at b_64
          try simp at b_65
          have c_66 := seg_at' h_7 0 1 (by decide) (ds := [.sc (.int .i64 e_6)]) rfl
          try simp at c_66
          obtain ⟨y_67, h_68, hp⟩ := bind_some hp
          have c_69 := C72_eq h_68
          simp at c_69
          obtain ⟨y_70, h_71, hp⟩ := bind_some hp
          have c_72 := C180_eq h_71
          simp at c_72
          try simp [h_19, q_25, q_26, q_27, q_28, q_29, q_30, q_31, h_33, h_53, c_56, b_59, b_60, c_61, b_64, b_65, c_66, c_69, c_72]
          rcases cond_cases hp with ⟨h_73, hp⟩ | ⟨h_73, hp⟩
          · try simp at h_73
            try simp [h_19, q_25, q_26, q_27, q_28, q_29, q_30, q_31, h_33, h_53, h_73]
            rcases cond_cases hp with ⟨h_74, hp⟩ | ⟨h_74, hp⟩
            · try simp at h_74
              obtain ⟨e_75, h_76, hp⟩ := bind_some hp
              cases Option.some.inj (h_43.symm.trans h_76)
              have b_77 := at_lo h_43
              have b_78 := at_hi h_43
              try simp at b_77
              try simp at b_78
              have c_79 := seg_at' h_43 0 1 (by decide) (ds := [.sc (.int .i64 e_42)]) rfl
              try simp at c_79
              obtain ⟨e_80, h_81, hp⟩ := bind_some hp
              cases Option.some.inj (h_7.symm.trans h_81)
              have b_82 := at_lo h_7
              have b_83 := at_hi h_7
              try simp at b_82
              try simp at b_83
              have c_84 := seg_at' h_7 0 1 (by decide) (ds := [.sc (.int .i64 e_6)]) rfl
              try simp at c_84
              try simp [h_19, q_25, q_26, q_27, q_28, q_29, q_30, q_31, h_33, h_53, h_73, h_74, b_77, b_78, c_79, b_82, b_83, c_84]
              rcases cond_cases hp with ⟨h_85, hp⟩ | ⟨h_85, hp⟩
              · try simp at h_85
                obtain ⟨e_86, h_87, hp⟩ := bind_some hp
                cases Option.some.inj (h_7.symm.trans h_87)
                have b_88 := at_lo h_7
                have b_89 := at_hi h_7
                try simp at b_88
                try simp at b_89
                have c_90 := seg_at' h_7 0 1 (by decide) (ds := [.sc (.int .i64 e_6)]) rfl
                try simp at c_90
                obtain ⟨e_91, h_92, hp⟩ := bind_some hp
                cases Option.some.inj (h_12.symm.trans h_92)
                have b_93 := at_lo h_12
                have b_94 := at_hi h_12
                try simp at b_93
                try simp at b_94
                have c_95 := seg_at' h_12 3 1 (by decide) (ds := [.sc (.int .i64 e_11.many)]) rfl
                try simp at c_95
                try simp [h_19, q_25, q_26, q_27, q_28, q_29, q_30, q_31, h_33, h_53, h_73, h_74, h_85, b_88, b_89, c_90, b_93, b_94, c_95]
                rcases cond_cases hp with ⟨h_96, hp⟩ | ⟨h_96, hp⟩
                · try simp at h_96
                  cases hp
                  try simp [h_19, q_25, q_26, q_27, q_28, q_29, q_30, q_31, h_33, h_53, h_73, h_74, h_85, h_96]
                  refine goal_outR ?_
                  rw [X_23_]
                  exact ⟨_, rfl, by simp [restrict_env, h_19, q_25, q_26, q_27, q_28, q_29, q_30, q_31, h_33, h_53, h_73, h_74, h_85, h_96], by simp [restrict_mem, h_19, q_25, q_26, q_27, q_28, q_29, q_30, q_31, h_33, h_53, h_73, h_74, h_85, h_96], by simp [restrict_mem, h_19, q_25, q_26, q_27, q_28, q_29, q_30, q_31, h_33, h_53, h_73, h_74, h_85, h_96], NoBox.restrict (by intro k hk hb; simp at hk hb; simp [hk, hb, h_19, q_25, q_26, q_27, q_28, q_29, q_30, q_31, h_33, h_53, h_73, h_74, h_85, h_96, hn_32 k (by simp [hk, hb])])⟩
                · try simp at h_96
                  cases hp
                  try simp [h_19, q_25, q_26, q_27, q_28, q_29, q_30, q_31, h_33, h_53, h_73, h_74, h_85, h_96]
                  refine goal_next ?_
                  rw [I_22_]
                  exact ⟨by simp [restrict_env, h_19, q_25, q_26, q_27, q_28, q_29, q_30, q_31, h_33, h_53, h_73, h_74, h_85, h_96], by simp [restrict_env, h_19, q_25, q_26, q_27, q_28, q_29, q_30, q_31, h_33, h_53, h_73, h_74, h_85, h_96], by simp [restrict_env, h_19, q_25, q_26, q_27, q_28, q_29, q_30, q_31, h_33, h_53, h_73, h_74, h_85, h_96], by simp [restrict_env, h_19, q_25, q_26, q_27, q_28, q_29, q_30, q_31, h_33, h_53, h_73, h_74, h_85, h_96], by simp [restrict_env, h_19, q_25, q_26, q_27, q_28, q_29, q_30, q_31, h_33, h_53, h_73, h_74, h_85, h_96], by simp [restrict_mem, h_19, q_25, q_26, q_27, q_28, q_29, q_30, q_31, h_33, h_53, h_73, h_74, h_85, h_96], by simp [restrict_mem, h_19, q_25, q_26, q_27, q_28, q_29, q_30, q_31, h_33, h_53, h_73, h_74, h_85, h_96], NoBox.restrict (by intro k hk hb; simp at hk hb; simp [hk, hb, h_19, q_25, q_26, q_27, q_28, q_29, q_30, q_31, h_33, h_53, h_73, h_74, h_85, h_96, hn_32 k (by simp [hk, hb])])⟩
              · try simp at h_85
                cases hp
                try simp [h_19, q_25, q_26, q_27, q_28, q_29, q_30, q_31, h_33, h_53, h_73, h_74, h_85]
                refine goal_next ?_
                rw [I_22_]
                exact ⟨by simp [restrict_env, h_19, q_25, q_26, q_27, q_28, q_29, q_30, q_31, h_33, h_53, h_73, h_74, h_85], by simp [restrict_env, h_19, q_25, q_26, q_27, q_28, q_29, q_30, q_31, h_33, h_53, h_73, h_74, h_85], by simp [restrict_env, h_19, q_25, q_26, q_27, q_28, q_29, q_30, q_31, h_33, h_53, h_73, h_74, h_85], by simp [restrict_env, h_19, q_25, q_26, q_27, q_28, q_29, q_30, q_31, h_33, h_53, h_73, h_74, h_85], by simp [restrict_env, h_19, q_25, q_26, q_27, q_28, q_29, q_30, q_31, h_33, h_53, h_73, h_74, h_85], by simp [restrict_mem, h_19, q_25, q_26, q_27, q_28, q_29, q_30, q_31, h_33, h_53, h_73, h_74, h_85], by simp [restrict_mem, h_19, q_25, q_26, q_27, q_28, q_29, q_30, q_31, h_33, h_53, h_73, h_74, h_85], NoBox.restrict (by intro k hk hb; simp at hk hb; simp [hk, hb, h_19, q_25, q_26, q_27, q_28, q_29, q_30, q_31, h_33, h_53, h_73, h_74, h_85, hn_32 k (by simp [hk, hb])])⟩
            · try simp at h_74
              cases hp
              try simp [h_19, q_25, q_26, q_27, q_28, q_29, q_30, q_31, h_33, h_53, h_73, h_74]
              refine goal_next ?_
              rw [I_22_]
              exact ⟨by simp [restrict_env, h_19, q_25, q_26, q_27, q_28, q_29, q_30, q_31, h_33, h_53, h_73, h_74], by simp [restrict_env, h_19, q_25, q_26, q_27, q_28, q_29, q_30, q_31, h_33, h_53, h_73, h_74], by simp [restrict_env, h_19, q_25, q_26, q_27, q_28, q_29, q_30, q_31, h_33, h_53, h_73, h_74], by simp [restrict_env, h_19, q_25, q_26, q_27, q_28, q_29, q_30, q_31, h_33, h_53, h_73, h_74], by simp [restrict_env, h_19, q_25, q_26, q_27, q_28, q_29, q_30, q_31, h_33, h_53, h_73, h_74], by simp [restrict_mem, h_19, q_25, q_26, q_27, q_28, q_29, q_30, q_31, h_33, h_53, h_73, h_74], by simp [restrict_mem, h_19, q_25, q_26, q_27, q_28, q_29, q_30, q_31, h_33, h_53, h_73, h_74], NoBox.restrict (by intro k hk hb; simp at hk hb; simp [hk, hb, h_19, q_25, q_26, q_27, q_28, q_29, q_30, q_31, h_33, h_53, h_73, h_74, hn_32 k (by simp [hk, hb])])⟩
          · try simp at h_73
            cases hp
            try simp [h_19, q_25, q_26, q_27, q_28, q_29, q_30, q_31, h_33, h_53, h_73]
            refine goal_outR ?_
            rw [X_23_]
            exact ⟨_, rfl, by simp [restrict_env, h_19, q_25, q_26, q_27, q_28, q_29, q_30, q_31, h_33, h_53, h_73], by simp [restrict_mem, h_19, q_25, q_26, q_27, q_28, q_29, q_30, q_31, h_33, h_53, h_73], by simp [restrict_mem, h_19, q_25, q_26, q_27, q_28, q_29, q_30, q_31, h_33, h_53, h_73], NoBox.restrict (by intro k hk hb; simp at hk hb; simp [hk, hb, h_19, q_25, q_26, q_27, q_28, q_29, q_30, q_31, h_33, h_53, h_73, hn_32 k (by simp [hk, hb])])⟩
        · try simp at h_53
          cases hp
          try simp [h_19, q_25, q_26, q_27, q_28, q_29, q_30, q_31, h_33, h_53]
          refine goal_outR ?_
          rw [X_23_]
          exact ⟨_, rfl, by simp [restrict_env, h_19, q_25, q_26, q_27, q_28, q_29, q_30, q_31, h_33, h_53], by simp [restrict_mem, h_19, q_25, q_26, q_27, q_28, q_29, q_30, q_31, h_33, h_53], by simp [restrict_mem, h_19, q_25, q_26, q_27, q_28, q_29, q_30, q_31, h_33, h_53], NoBox.restrict (by intro k hk hb; simp at hk hb; simp [hk, hb, h_19, q_25, q_26, q_27, q_28, q_29, q_30, q_31, h_33, h_53, hn_32 k (by simp [hk, hb])])⟩
      · try simp at h_33
        cases hp
        try simp [h_19, q_25, q_26, q_27, q_28, q_29, q_30, q_31, h_33]
        refine goal_outX ?_
        rw [X_23_]
        exact ⟨_, rfl, by simp [restrict_mem, h_19, q_25, q_26, q_27, q_28, q_29, q_30, q_31, h_33], by simp [restrict_mem, h_19, q_25, q_26, q_27, q_28, q_29, q_30, q_31, h_33], NoBox.restrict (by intro k hk hb; simp at hk hb; simp [hk, hb, h_19, q_25, q_26, q_27, q_28, q_29, q_30, q_31, h_33, hn_32 k (by simp [hk, hb])])⟩
    · intro out hX
      rw [X_23_] at hX
      rcases r_97 with r_97 | r_97
      · simp only [Sum.elim_inl, Sum.elim_inr] at hX hp
        obtain ⟨σ_99, rfl, q_100, q_101, q_102, hn_103⟩ := hX
        cases hp
        simp [Goal, FnEnd, h_19, q_100, q_101, q_102]
      · simp only [Sum.elim_inl, Sum.elim_inr] at hX hp
        obtain ⟨σ_104, rfl, q_105, q_106, hn_107⟩ := hX
        cases hp
        simp [Goal, FnEnd, h_19, q_105, q_106]
  · try simp at h_19
    cases hp
    simp [Goal, FnEnd, h_19]
theorem pc165 : PC Try.prog 165 C165 := pc_of (g := g165) (ctxOK_of [(72, C72), (179, C179), (180, C180)] rfl ⟨pc72, pc179, pc180, trivial⟩) ⟨Try.f165, Try.func165, by kernel_rfl, by kernel_rfl⟩ fun x y h => w165 h

noncomputable def C164 : List AV → Option AV := specP (X := TStructure × TStructure × (List Int) × Unit) fun x => spec_IsEmbedding x.1 x.2.1 x.2.2.1
theorem C164_eq {s t to_} {y} (h : spec_IsEmbedding s t to_ = some y) : C164 [av .shr s, av .shr t, av .shr to_] = some (Res.res y) := specP_eq (X := TStructure × TStructure × (List Int) × Unit) (F := fun x => spec_IsEmbedding x.1 x.2.1 x.2.2.1) (x := (s, t, to_, ())) h
noncomputable def g164 : Cfg := { P := Try.prog, take := [], keep := [((164, 4), { hd := [2, 3, 4, 7], bx := [], ex := [2, 4], rt := [6] }), ((164, 9), { hd := [2, 4, 8], bx := [], ex := [], rt := [6] })], gho := [], ctx := [(45, C45), (149, C149), (165, C165)] }
@[simp] theorem g164_P : g164.P = Try.prog := rfl
@[simp] theorem g164_t : g164.take = [] := rfl
@[simp] theorem g164_g : g164.gho = [] := rfl
@[simp] theorem g164_45 : lookN 45 g164.ctx = some C45 := rfl
@[simp] theorem g164_149 : lookN 149 g164.ctx = some C149 := rfl
@[simp] theorem g164_165 : lookN 165 g164.ctx = some C165 := rfl
set_option maxHeartbeats 4000000 in
set_option maxRecDepth 100000 in
theorem w164 {s t to_} {y} (hp : spec_IsEmbedding s t to_ = some y) : ∃ m, callo g164 0 164 [av .shr s, av .shr t, av .shr to_] mem0 = some (Res.res y, m) := by
  refine start_fn (Try.f164.body.getD .skip) [.tmp 6] rfl rfl Try.func164 (by kernel_rfl) (by kernel_rfl) (by simp [Try.ntmps164]) rfl ?_
  unfold spec_IsEmbedding at hp
  simp [Try.f164]
  rcases cond_cases hp with ⟨h_1, hp⟩ | ⟨h_1, hp⟩
  · try simp at h_1
    cases hp
    simp [Goal, FnEnd, h_1]
  · try simp at h_1
    try simp [h_1]
    obtain ⟨r_35, h_36, hp⟩ := bind_some hp
    obtain ⟨I_4, I_4_⟩ : ∃ I : Int → St → Prop, I = (fun (s_2 : Int) (σ : St) => σ.env 2 = .one (.l .shr to_.length (encL to_)) ∧ σ.env 3 = .one (.ptr (1, 3) 0) ∧ σ.env 4 = .one (.ptr (1, 4) 0) ∧ σ.env 7 = .one (.s (.int .i64 s_2)) ∧ σ.mem (1, 3) = some [(.l .shr s.nodes.length (encL s.nodes)), (.l .shr s.next.length (encL s.next))] ∧ σ.mem (1, 4) = some [(.l .shr t.nodes.length (encL t.nodes)), (.l .shr t.next.length (encL t.next))] ∧ NoBox [(1, 3), (1, 4)] σ.mem) := ⟨_, rfl⟩
    obtain ⟨X_5, X_5_⟩ : ∃ X : ((Unit) ⊕ (Unit)) → Out → Prop, X = (fun (r_35 : (Unit) ⊕ (Unit)) (out : Out) => Sum.elim (fun r_35 => ∃ σ : St, out = .ret σ ∧ σ.env 6 = .one (.s (.bool false)) ∧ σ.mem (1, 3) = some [(.l .shr s.nodes.length (encL s.nodes)), (.l .shr s.next.length (encL s.next))] ∧ σ.mem (1, 4) = some [(.l .shr t.nodes.length (encL t.nodes)), (.l .shr t.next.length (encL t.next))] ∧ NoBox [(1, 3), (1, 4)] σ.mem) (fun r_35 => ∃ σ : St, out = .exit 0 σ ∧ σ.env 2 = .one (.l .shr to_.length (encL to_)) ∧ σ.env 4 = .one (.ptr (1, 4) 0) ∧ σ.mem (1, 3) = some [(.l .shr s.nodes.length (encL s.nodes)), (.l .shr s.next.length (encL s.next))] ∧ σ.mem (1, 4) = some [(.l .shr t.nodes.length (encL t.nodes)), (.l .shr t.next.length (encL t.next))] ∧ NoBox [(1, 3), (1, 4)] σ.mem) r_35) := ⟨_, rfl⟩
    refine loopP ({ hd := [2, 3, 4, 7], bx := [], ex := [2, 4], rt := [6] }) I_4 X_5 h_36 (by exact rfl) ?_ ?_ ?_
    · rw [I_4_]
      exact ⟨by simp [restrict_env, h_1], by simp [restrict_env, h_1], by simp [restrict_env, h_1], by simp [restrict_env, h_1], by simp [restrict_mem, h_1], by simp [restrict_mem, h_1], NoBox.restrict (by intro k hk hb; simp at hk hb; simp [hk, hb, h_1])⟩
    · intro s_2 σ_6 a_3 hI hp
      rw [I_4_] at hI
      obtain ⟨q_7, q_8, q_9, q_10, q_11, q_12, hn_13⟩ := hI
      try simp [h_1, q_7, q_8, q_9, q_10, q_11, q_12]
      rcases cond_cases hp with ⟨h_14, hp⟩ | ⟨h_14, hp⟩
      · try simp at h_14
        obtain ⟨e_15, h_16, hp⟩ := bind_some hp
        have b_17 := at_lo h_16
        have b_18 := at_hi h_16
        try simp at b_17
        try simp at b_18
        have c_19 := seg_at' h_16 0 1 (by decide) (ds := [.sc (.int .i64 e_15)]) rfl
        try simp at c_19
        obtain ⟨y_20, h_21, hp⟩ := bind_some hp
        have c_22 := C45_eq h_21
        simp at c_22
        try simp [h_1, q_7, q_8, q_9, q_10, q_11, q_12, h_14, b_17, b_18, c_19, c_22]
        rcases cond_cases hp with ⟨h_23, hp⟩ | ⟨h_23, hp⟩
        · try simp at h_23
          obtain ⟨z_24, h_25, hp⟩ := bind_some hp
          have c_27 := slc_1 h_25
          have c_28 := slc_2 h_25
          have c_29 := slc_3 h_25
          have c_30 := slc_4 h_25
          try simp at c_27
          try simp at c_28
          try simp at c_29
          try simp [c_29] at c_30
          obtain ⟨y_31, h_32, hp⟩ := bind_some hp
          have c_33 := C165_eq h_32
          simp at c_33
          try simp [h_1, q_7, q_8, q_9, q_10, q_11, q_12, h_14, h_23, c_27, c_28, c_29, c_30, c_33]
          rcases cond_cases hp with ⟨h_34, hp⟩ | ⟨h_34, hp⟩
          · try simp at h_34
            cases hp
            try simp [h_1, q_7, q_8, q_9, q_10, q_11, q_12, h_14, h_23, h_34]
            refine goal_next ?_
            rw [I_4_]
            exact ⟨by simp [restrict_env, h_1, q_7, q_8, q_9, q_10, q_11, q_12, h_14, h_23, h_34], by simp [restrict_env, h_1, q_7, q_8, q_9, q_10, q_11, q_12, h_14, h_23, h_34], by simp [restrict_env, h_1, q_7, q_8, q_9, q_10, q_11, q_12, h_14, h_23, h_34], by simp [restrict_env, h_1, q_7, q_8, q_9, q_10, q_11, q_12, h_14, h_23, h_34], by simp [restrict_mem, h_1, q_7, q_8, q_9, q_10, q_11, q_12, h_14, h_23, h_34], by simp [restrict_mem, h_1, q_7, q_8, q_9, q_10, q_11, q_12, h_14, h_23, h_34], NoBox.restrict (by intro k hk hb; simp at hk hb; simp [hk, hb, h_1, q_7, q_8, q_9, q_10, q_11, q_12, h_14, h_23, h_34, hn_13 k (by simp [hk, hb])])⟩
          · try simp at h_34
            cases hp
            try simp [h_1, q_7, q_8, q_9, q_10, q_11, q_12, h_14, h_23, h_34]
            refine goal_outR ?_
            rw [X_5_]
            exact ⟨_, rfl, by simp [restrict_env, h_1, q_7, q_8, q_9, q_10, q_11, q_12, h_14, h_23, h_34], by simp [restrict_mem, h_1, q_7, q_8, q_9, q_10, q_11, q_12, h_14, h_23, h_34], by simp [restrict_mem, h_1, q_7, q_8, q_9, q_10, q_11, q_12, h_14, h_23, h_34], NoBox.restrict (by intro k hk hb; simp at hk hb; simp [hk, hb, h_1, q_7, q_8, q_9, q_10, q_11, q_12, h_14, h_23, h_34, hn_13 k (by simp [hk, hb])])⟩
        · try simp at h_23
          cases hp
          try simp [h_1, q_7, q_8, q_9, q_10, q_11, q_12, h_14, h_23]
          refine goal_outR ?_
          rw [X_5_]
          exact ⟨_, rfl, by simp [restrict_env, h_1, q_7, q_8, q_9, q_10, q_11, q_12, h_14, h_23], by simp [restrict_mem, h_1, q_7, q_8, q_9, q_10, q_11, q_12, h_14, h_23], by simp [restrict_mem, h_1, q_7, q_8, q_9, q_10, q_11, q_12, h_14, h_23], NoBox.restrict (by intro k hk hb; simp at hk hb; simp [hk, hb, h_1, q_7, q_8, q_9, q_10, q_11, q_12, h_14, h_23, hn_13 k (by simp [hk, hb])])⟩
      · try simp at h_14
        cases hp
        try simp [h_1, q_7, q_8, q_9, q_10, q_11, q_12, h_14]
        refine goal_outX ?_
        rw [X_5_]
        exact ⟨_, rfl, by simp [restrict_env, h_1, q_7, q_8, q_9, q_10, q_11, q_12, h_14], by simp [restrict_env, h_1, q_7, q_8, q_9, q_10, q_11, q_12, h_14], by simp [restrict_mem, h_1, q_7, q_8, q_9, q_10, q_11, q_12, h_14], by simp [restrict_mem, h_1, q_7, q_8, q_9, q_10, q_11, q_12, h_14], NoBox.restrict (by intro k hk hb; simp at hk hb; simp [hk, hb, h_1, q_7, q_8, q_9, q_10, q_11, q_12, h_14, hn_13 k (by simp [hk, hb])])⟩
    · intro out hX
      rw [X_5_] at hX
      rcases r_35 with r_35 | r_35
      · simp only [Sum.elim_inl, Sum.elim_inr] at hX hp
        obtain ⟨σ_37, rfl, q_38, q_39, q_40, hn_41⟩ := hX
        cases hp
        simp [Goal, FnEnd, h_1, q_38, q_39, q_40]
      · simp only [Sum.elim_inl, Sum.elim_inr] at hX hp
        obtain ⟨σ_42, rfl, q_43, q_44, q_45, q_46, hn_47⟩ := hX
        try simp [h_1, q_43, q_44, q_45, q_46]
        obtain ⟨r_64, h_65, hp⟩ := bind_some hp
        obtain ⟨I_50, I_50_⟩ : ∃ I : Int → St → Prop, I = (fun (s_48 : Int) (σ : St) => σ.env 2 = .one (.l .shr to_.length (encL to_)) ∧ σ.env 4 = .one (.ptr (1, 4) 0) ∧ σ.env 8 = .one (.s (.int .i64 s_48)) ∧ σ.mem (1, 3) = some [(.l .shr s.nodes.length (encL s.nodes)), (.l .shr s.next.length (encL s.next))] ∧ σ.mem (1, 4) = some [(.l .shr t.nodes.length (encL t.nodes)), (.l .shr t.next.length (encL t.next))] ∧ NoBox [(1, 3), (1, 4)] σ.mem) := ⟨_, rfl⟩
        obtain ⟨X_51, X_51_⟩ : ∃ X : ((Bool) ⊕ (Unit)) → Out → Prop, X = (fun (r_64 : (Bool) ⊕ (Unit)) (out : Out) => Sum.elim (fun r_64 => ∃ σ : St, out = .ret σ ∧ σ.env 6 = .one (.s (.bool r_64)) ∧ σ.mem (1, 3) = some [(.l .shr s.nodes.length (encL s.nodes)), (.l .shr s.next.length (encL s.next))] ∧ σ.mem (1, 4) = some [(.l .shr t.nodes.length (encL t.nodes)), (.l .shr t.next.length (encL t.next))] ∧ NoBox [(1, 3), (1, 4)] σ.mem) (fun r_64 => ∃ σ : St, out = .exit 2 σ ∧ σ.mem (1, 3) = some [(.l .shr s.nodes.length (encL s.nodes)), (.l .shr s.next.length (encL s.next))] ∧ σ.mem (1, 4) = some [(.l .shr t.nodes.length (encL t.nodes)), (.l .shr t.next.length (encL t.next))] ∧ NoBox [(1, 3), (1, 4)] σ.mem) r_64) := ⟨_, rfl⟩
        refine loopP ({ hd := [2, 4, 8], bx := [], ex := [], rt := [6] }) I_50 X_51 h_65 (by exact rfl) ?_ ?_ ?_
        · rw [I_50_]
          exact ⟨by simp [restrict_env, h_1, q_43, q_44, q_45, q_46], by simp [restrict_env, h_1, q_43, q_44, q_45, q_46], by simp [restrict_env, h_1, q_43, q_44, q_45, q_46], by simp [restrict_mem, h_1, q_43, q_44, q_45, q_46], by simp [restrict_mem, h_1, q_43, q_44, q_45, q_46], NoBox.restrict (by intro k hk hb; simp at hk hb; simp [hk, hb, h_1, q_43, q_44, q_45, q_46, hn_47 k (by simp [hk, hb])])⟩
        · intro s_48 σ_52 a_49 hI hp
          rw [I_50_] at hI
          obtain ⟨q_53, q_54, q_55, q_56, q_57, hn_58⟩ := hI
          try simp [h_1, q_53, q_54, q_55, q_56, q_57]
          rcases cond_cases hp with ⟨h_59, hp⟩ | ⟨h_59, hp⟩
          · try simp at h_59
            obtain ⟨y_60, h_61, hp⟩ := bind_some hp
            have c_62 := C149_eq h_61
            simp at c_62
            try simp [h_1, q_53, q_54, q_55, q_56, q_57, h_59, c_62]
            rcases cond_cases hp with ⟨h_63, hp⟩ | ⟨h_63, hp⟩
            · try simp at h_63
              cases hp
              try simp [h_1, q_53, q_54, q_55, q_56, q_57, h_59, h_63]
              refine goal_next ?_
              rw [I_50_]
              exact ⟨by simp [restrict_env, h_1, q_53, q_54, q_55, q_56, q_57, h_59, h_63], by simp [restrict_env, h_1, q_53, q_54, q_55, q_56, q_57, h_59, h_63], by simp [restrict_env, h_1, q_53, q_54, q_55, q_56, q_57, h_59, h_63], by simp [restrict_mem, h_1, q_53, q_54, q_55, q_56, q_57, h_59, h_63], by simp [restrict_mem, h_1, q_53, q_54, q_55, q_56, q_57, h_59, h_63], NoBox.restrict (by intro k hk hb; simp at hk hb; simp [hk, hb, h_1, q_53, q_54, q_55, q_56, q_57, h_59, h_63, hn_58 k (by simp [hk, hb])])⟩
            · try simp at h_63
              cases hp
              try simp [h_1, q_53, q_54, q_55, q_56, q_57, h_59, h_63]
              refine goal_outR ?_
              rw [X_51_]
              exact ⟨_, rfl, by simp [restrict_env, h_1, q_53, q_54, q_55, q_56, q_57, h_59, h_63], by simp [restrict_mem, h_1, q_53, q_54, q_55, q_56, q_57, h_59, h_63], by simp [restrict_mem, h_1, q_53, q_54, q_55, q_56, q_57, h_59, h_63], NoBox.restrict (by intro k hk hb; simp at hk hb; simp [hk, hb, h_1, q_53, q_54, q_55, q_56, q_57, h_59, h_63, hn_58 k (by simp [hk, hb])])⟩
          · try simp at h_59
            cases hp
            try simp [h_1, q_53, q_54, q_55, q_56, q_57, h_59]
            refine goal_outX ?_
            rw [X_51_]
            exact ⟨_, rfl, by simp [restrict_mem, h_1, q_53, q_54, q_55, q_56, q_57, h_59], by simp [restrict_mem, h_1, q_53, q_54, q_55, q_56, q_57, h_59], NoBox.restrict (by intro k hk hb; simp at hk hb; simp [hk, hb, h_1, q_53, q_54, q_55, q_56, q_57, h_59, hn_58 k (by simp [hk, hb])])⟩
        · intro out hX
          rw [X_51_] at hX
          rcases r_64 with r_64 | r_64
          · simp only [Sum.elim_inl, Sum.elim_inr] at hX hp
            obtain ⟨σ_66, rfl, q_67, q_68, q_69, hn_70⟩ := hX
            cases hp
            simp [Goal, FnEnd, h_1, q_67, q_68, q_69]
          · simp only [Sum.elim_inl, Sum.elim_inr] at hX hp
            obtain ⟨σ_71, rfl, q_72, q_73, hn_74⟩ := hX
            cases hp
            simp [Goal, FnEnd, h_1, q_72, q_73]
theorem pc164 : PC Try.prog 164 C164 := pc_of (g := g164) (ctxOK_of [(45, C45), (149, C149), (165, C165)] rfl ⟨pc45, pc149, pc165, trivial⟩) ⟨Try.f164, Try.func164, by kernel_rfl, by kernel_rfl⟩ fun x y h => w164 h

abbrev G143 (g : Cfg) : Prop := Has Try.prog g 143 Try.f143 [41] [(4, { hd := [2, 3, 4, 8], bx := [], ex := [], rt := [6, 7] })] [(164, C164), (165, C165)] []
set_option maxHeartbeats 4000000 in
set_option maxRecDepth 100000 in
theorem wI143 {g : Cfg} (G : G143 g) (fu : Nat) : ∀ {d : Nat} {mem : Mem} (hT : Tight d mem)  {s : TStructure} {t : TStructure} {to_ : (List Int)} {m_0 : Md} (hm_0 : LentM m_0) {m_1 : Md} (hm_1 : LentM m_1) {m_2 : Md} (hm_2 : LentM m_2) {y} (hp : fixN R_spec_l16Find fu (s, t, to_, ()) = some y), ∃ r, callo g d 143 [av m_0 s, av m_1 t, av m_2 to_] mem = some (r, mem) ∧ ∃ me_0 : Md, r = .tu [tupM me_0 y.1, tup y.2] := by
  have gP := G.P; have gt := G.tk; have gg := G.gh
  have i_143 := G.no
  have k_4 := G.kp (4, { hd := [2, 3, 4, 8], bx := [], ex := [], rt := [6, 7] }) (by simp)
  have c_164 := G.cs (164, C164) (by simp)
  have c_165 := G.cs (165, C165) (by simp)
  induction fu with
  | zero => intros; exact absurd ‹fixN _ 0 _ = some _› (by simp [fixN])
  | succ fu ih =>
    intro d mem hT s t to_ m_0 hm_0 m_1 hm_1 m_2 hm_2 y hp
    have hT2 : memKill (fun k => decide (d < k.1)) mem = mem := hT
    have hm0 : ∀ t, mem (d + 1, t) = none := fun t => hT.none (by simp)
    refine start_ex (Try.f143.body.getD .skip) [.tmp 6, .tmp 7] G Try.func143 (by kernel_rfl) (by simp [Try.ntmps143]) rfl ?_
    replace hp : B_spec_l16Find (fun s t to_ => fixN R_spec_l16Find fu (s, t, to_, ())) s t to_ = some y := hp
    unfold B_spec_l16Find at hp
    simp [Try.f143, gP, gt, gg, hm0, i_143, hm_0.copy, hm_0.elem, hm_1.copy, hm_1.elem, hm_2.copy, hm_2.elem]
    rcases cond_cases hp with ⟨h_1, hp⟩ | ⟨h_1, hp⟩
    · try simp at h_1
      obtain ⟨y_2, h_3, hp⟩ := bind_some hp
      have c_4 := C164_eq h_3
      simp at c_4
      cases hp
      simp [Goal, FnEndE, memKill_hi, retR, rsrc, RSrc.val, nodupR, nodup, tupPart, gP, gt, gg, hm0, c_164, i_143, hm_0.copy, hm_0.elem, hm_1.copy, hm_1.elem, hm_2.copy, hm_2.elem, h_1, c_4, hT2]
    · try simp at h_1
      try simp [gP, gt, gg, hm0, c_164, c_165, i_143, hm_0.copy, hm_0.elem, hm_1.copy, hm_1.elem, hm_2.copy, hm_2.elem, h_1]
      obtain ⟨r_32, h_33, hp⟩ := bind_some hp
      obtain ⟨I_7, I_7_⟩ : ∃ I : Int → St → Prop, I = (fun (s_5 : Int) (σ : St) => σ.env 2 = .one (.l m_2 to_.length (encL to_)) ∧ σ.env 3 = .one (.ptr (d + 1, 3) 0) ∧ σ.env 4 = .one (.ptr (d + 1, 4) 0) ∧ σ.env 8 = .one (.s (.int .i64 s_5)) ∧ σ.mem (d + 1, 3) = some [(.l m_0 s.nodes.length (encL s.nodes)), (.l m_0 s.next.length (encL s.next))] ∧ σ.mem (d + 1, 4) = some [(.l m_1 t.nodes.length (encL t.nodes)), (.l m_1 t.next.length (encL t.next))] ∧ Tight (d + 1) σ.mem ∧ Agree d mem σ.mem ∧ NoBoxD d [(d + 1, 3), (d + 1, 4)] σ.mem) := ⟨_, rfl⟩
      obtain ⟨X_8, X_8_⟩ : ∃ X : (((List Int) × Bool) ⊕ (Unit)) → Out → Prop, X = (fun (r_32 : ((List Int) × Bool) ⊕ (Unit)) (out : Out) => Sum.elim (fun r_32 => ∃ σ : St, out = .ret σ ∧ (∃ mq_34 : Md, σ.env 6 = .one (.l mq_34 r_32.1.length (encL r_32.1))) ∧ σ.env 7 = .one (.s (.bool r_32.2)) ∧ σ.mem (d + 1, 3) = some [(.l m_0 s.nodes.length (encL s.nodes)), (.l m_0 s.next.length (encL s.next))] ∧ σ.mem (d + 1, 4) = some [(.l m_1 t.nodes.length (encL t.nodes)), (.l m_1 t.next.length (encL t.next))] ∧ Tight (d + 1) σ.mem ∧ Agree d mem σ.mem ∧ NoBoxD d [(d + 1, 3), (d + 1, 4)] σ.mem) (fun r_32 => ∃ σ : St, out = .exit 0 σ ∧ σ.mem (d + 1, 3) = some [(.l m_0 s.nodes.length (encL s.nodes)), (.l m_0 s.next.length (encL s.next))] ∧ σ.mem (d + 1, 4) = some [(.l m_1 t.nodes.length (encL t.nodes)), (.l m_1 t.next.length (encL t.next))] ∧ Tight (d + 1) σ.mem ∧ Agree d mem σ.mem ∧ NoBoxD d [(d + 1, 3), (d + 1, 4)] σ.mem) r_32) := ⟨_, rfl⟩
      refine loopP ({ hd := [2, 3, 4, 8], bx := [], ex := [], rt := [6, 7] }) I_7 X_8 h_33 (by exact k_4) ?_ ?_ ?_
      · rw [I_7_]
        exact ⟨by simp [restrict_env, gP, gt, gg, hm0, c_164, c_165, i_143, hm_0.copy, hm_0.elem, hm_1.copy, hm_1.elem, hm_2.copy, hm_2.elem, h_1], by simp [restrict_env, gP, gt, gg, hm0, c_164, c_165, i_143, hm_0.copy, hm_0.elem, hm_1.copy, hm_1.elem, hm_2.copy, hm_2.elem, h_1], by simp [restrict_env, gP, gt, gg, hm0, c_164, c_165, i_143, hm_0.copy, hm_0.elem, hm_1.copy, hm_1.elem, hm_2.copy, hm_2.elem, h_1], by simp [restrict_env, gP, gt, gg, hm0, c_164, c_165, i_143, hm_0.copy, hm_0.elem, hm_1.copy, hm_1.elem, hm_2.copy, hm_2.elem, h_1], by simp [restrict_mem, gP, gt, gg, hm0, c_164, c_165, i_143, hm_0.copy, hm_0.elem, hm_1.copy, hm_1.elem, hm_2.copy, hm_2.elem, h_1], by simp [restrict_mem, gP, gt, gg, hm0, c_164, c_165, i_143, hm_0.copy, hm_0.elem, hm_1.copy, hm_1.elem, hm_2.copy, hm_2.elem, h_1], (by repeat (first | exact tight_mem0 _ | exact hT.up | exact hT | refine Tight.restrict ?_ | refine Tight.upd ?_ (by simp) (by simp))), (by repeat (first | exact fun k hk => rfl | refine Agree.restrict hT ?_ | refine Agree.upd ?_ (by simp))), NoBoxD.restrict (by intro k hd hk hb; simp at hk hb; simp [hk, hb, gP, gt, gg, hm0, c_164, c_165, i_143, hm_0.copy, hm_0.elem, hm_1.copy, hm_1.elem, hm_2.copy, hm_2.elem, h_1, hT.none hd])⟩
      · intro s_5 σ_9 a_6 hI hp
        rw [I_7_] at hI
        obtain ⟨q_10, q_11, q_12, q_13, q_14, q_15, ht_16, ha_17, hn_18⟩ := hI
        try simp [gP, gt, gg, hm0, c_164, c_165, i_143, hm_0.copy, hm_0.elem, hm_1.copy, hm_1.elem, hm_2.copy, hm_2.elem, h_1, q_10, q_11, q_12, q_13, q_14, q_15]
        rcases cond_cases hp with ⟨h_19, hp⟩ | ⟨h_19, hp⟩
        · try simp at h_19
          obtain ⟨_, h_20, hp⟩ := bind_some hp
          have b_21 := room_ok h_20
          try simp at b_21
          obtain ⟨_, h_22, hp⟩ := bind_some hp
          have b_23 := room_ok h_22
          try simp at b_23
          obtain ⟨y_24, h_25, hp⟩ := bind_some hp
          have c_26 := C165_eq h_25
          simp at c_26
          try simp [gP, gt, gg, hm0, c_164, c_165, i_143, hm_0.copy, hm_0.elem, hm_1.copy, hm_1.elem, hm_2.copy, hm_2.elem, h_1, q_10, q_11, q_12, q_13, q_14, q_15, h_19, b_21, b_23, c_26]
          rcases cond_cases hp with ⟨h_27, hp⟩ | ⟨h_27, hp⟩
          · try simp at h_27
            obtain ⟨y_28, h_29, hp⟩ := bind_some hp
            try simp [gP, gt, gg, hm0, c_164, c_165, i_143, hm_0.copy, hm_0.elem, hm_1.copy, hm_1.elem, hm_2.copy, hm_2.elem, h_1, q_10, q_11, q_12, q_13, q_14, q_15, h_19, h_27]
            refine goal_callE [av m_0 s, av m_1 t, av .bor (to_ ++ [s_5])] (fun r => ∃ me_30 : Md, r = .tu [tupM me_30 y_28.1, tup y_28.2]) (by simp [gP, gt, gg, hm0, c_164, c_165, i_143, hm_0.copy, hm_0.elem, hm_1.copy, hm_1.elem, hm_2.copy, hm_2.elem, h_1, q_10, q_11, q_12, q_13, q_14, q_15, h_19, h_27]) (ih (by repeat (first | exact ht_16 | exact tight_mem0 _ | exact hT.up | exact hT | (simp only [q_10, q_11, q_12, q_13, q_14, q_15]; done) | refine Tight.upd ?_ (by simp) (by simp))) hm_0 hm_1 (.inr rfl) h_29) ?_
            rintro _ ⟨me_30, rfl⟩
            try simp [gP, gt, gg, hm0, c_164, c_165, i_143, hm_0.copy, hm_0.elem, hm_1.copy, hm_1.elem, hm_2.copy, hm_2.elem, h_1, q_10, q_11, q_12, q_13, q_14, q_15, h_19, h_27]
            rcases cond_cases hp with ⟨h_31, hp⟩ | ⟨h_31, hp⟩
            · try simp at h_31
              cases hp
              try simp [gP, gt, gg, hm0, c_164, c_165, i_143, hm_0.copy, hm_0.elem, hm_1.copy, hm_1.elem, hm_2.copy, hm_2.elem, h_1, q_10, q_11, q_12, q_13, q_14, q_15, h_19, h_27, h_31]
              refine goal_outR ?_
              rw [X_8_]
              exact ⟨_, rfl, ⟨me_30.copy, by simp [restrict_env, gP, gt, gg, hm0, c_164, c_165, i_143, hm_0.copy, hm_0.elem, hm_1.copy, hm_1.elem, hm_2.copy, hm_2.elem, h_1, q_10, q_11, q_12, q_13, q_14, q_15, h_19, h_27, h_31]⟩, by simp [restrict_env, gP, gt, gg, hm0, c_164, c_165, i_143, hm_0.copy, hm_0.elem, hm_1.copy, hm_1.elem, hm_2.copy, hm_2.elem, h_1, q_10, q_11, q_12, q_13, q_14, q_15, h_19, h_27, h_31], by simp [restrict_mem, gP, gt, gg, hm0, c_164, c_165, i_143, hm_0.copy, hm_0.elem, hm_1.copy, hm_1.elem, hm_2.copy, hm_2.elem, h_1, q_10, q_11, q_12, q_13, q_14, q_15, h_19, h_27, h_31], by simp [restrict_mem, gP, gt, gg, hm0, c_164, c_165, i_143, hm_0.copy, hm_0.elem, hm_1.copy, hm_1.elem, hm_2.copy, hm_2.elem, h_1, q_10, q_11, q_12, q_13, q_14, q_15, h_19, h_27, h_31], (by repeat (first | exact ht_16 | exact tight_mem0 _ | exact hT.up | exact hT | refine Tight.restrict ?_ | refine Tight.upd ?_ (by simp) (by simp))), (by repeat (first | exact ha_17 | exact fun k hk => rfl | refine Agree.restrict hT ?_ | refine Agree.upd ?_ (by simp))), NoBoxD.restrict (by intro k hd hk hb; simp at hk hb; simp [hk, hb, gP, gt, gg, hm0, c_164, c_165, i_143, hm_0.copy, hm_0.elem, hm_1.copy, hm_1.elem, hm_2.copy, hm_2.elem, h_1, q_10, q_11, q_12, q_13, q_14, q_15, h_19, h_27, h_31, hn_18 k hd (by simp [hk, hb])])⟩
            · try simp at h_31
              cases hp
              try simp [gP, gt, gg, hm0, c_164, c_165, i_143, hm_0.copy, hm_0.elem, hm_1.copy, hm_1.elem, hm_2.copy, hm_2.elem, h_1, q_10, q_11, q_12, q_13, q_14, q_15, h_19, h_27, h_31]
              refine goal_next ?_
              rw [I_7_]
              exact ⟨by simp [restrict_env, gP, gt, gg, hm0, c_164, c_165, i_143, hm_0.copy, hm_0.elem, hm_1.copy, hm_1.elem, hm_2.copy, hm_2.elem, h_1, q_10, q_11, q_12, q_13, q_14, q_15, h_19, h_27, h_31], by simp [restrict_env, gP, gt, gg, hm0, c_164, c_165, i_143, hm_0.copy, hm_0.elem, hm_1.copy, hm_1.elem, hm_2.copy, hm_2.elem, h_1, q_10, q_11, q_12, q_13, q_14, q_15, h_19, h_27, h_31], by simp [restrict_env, gP, gt, gg, hm0, c_164, c_165, i_143, hm_0.copy, hm_0.elem, hm_1.copy, hm_1.elem, hm_2.copy, hm_2.elem, h_1, q_10, q_11, q_12, q_13, q_14, q_15, h_19, h_27, h_31], by simp [restrict_env, gP, gt, gg, hm0, c_164, c_165, i_143, hm_0.copy, hm_0.elem, hm_1.copy, hm_1.elem, hm_2.copy, hm_2.elem, h_1, q_10, q_11, q_12, q_13, q_14, q_15, h_19, h_27, h_31], by simp [restrict_mem, gP, gt, gg, hm0, c_164, c_165, i_143, hm_0.copy, hm_0.elem, hm_1.copy, hm_1.elem, hm_2.copy, hm_2.elem, h_1, q_10, q_11, q_12, q_13, q_14, q_15, h_19, h_27, h_31], by simp [restrict_mem, gP, gt, gg, hm0, c_164, c_165, i_143, hm_0.copy, hm_0.elem, hm_1.copy, hm_1.elem, hm_2.copy, hm_2.elem, h_1, q_10, q_11, q_12, q_13, q_14, q_15, h_19, h_27, h_31], (by repeat (first | exact ht_16 | exact tight_mem0 _ | exact hT.up | exact hT | refine Tight.restrict ?_ | refine Tight.upd ?_ (by simp) (by simp))), (by repeat (first | exact ha_17 | exact fun k hk => rfl | refine Agree.restrict hT ?_ | refine Agree.upd ?_ (by simp))), NoBoxD.restrict (by intro k hd hk hb; simp at hk hb; simp [hk, hb, gP, gt, gg, hm0, c_164, c_165, i_143, hm_0.copy, hm_0.elem, hm_1.copy, hm_1.elem, hm_2.copy, hm_2.elem, h_1, q_10, q_11, q_12, q_13, q_14, q_15, h_19, h_27, h_31, hn_18 k hd (by simp [hk, hb])])⟩
          · try simp at h_27
            cases hp
            try simp [gP, gt, gg, hm0, c_164, c_165, i_143, hm_0.copy, hm_0.elem, hm_1.copy, hm_1.elem, hm_2.copy, hm_2.elem, h_1, q_10, q_11, q_12, q_13, q_14, q_15, h_19, h_27]
            refine goal_next ?_
            rw [I_7_]
            exact ⟨by simp [restrict_env, gP, gt, gg, hm0, c_164, c_165, i_143, hm_0.copy, hm_0.elem, hm_1.copy, hm_1.elem, hm_2.copy, hm_2.elem, h_1, q_10, q_11, q_12, q_13, q_14, q_15, h_19, h_27], by simp [restrict_env, gP, gt, gg, hm0, c_164, c_165, i_143, hm_0.copy, hm_0.elem, hm_1.copy, hm_1.elem, hm_2.copy, hm_2.elem, h_1, q_10, q_11, q_12, q_13, q_14, q_15, h_19, h_27], by simp [restrict_env, gP, gt, gg, hm0, c_164, c_165, i_143, hm_0.copy, hm_0.elem, hm_1.copy, hm_1.elem, hm_2.copy, hm_2.elem, h_1, q_10, q_11, q_12, q_13, q_14, q_15, h_19, h_27], by simp [restrict_env, gP, gt, gg, hm0, c_164, c_165, i_143, hm_0.copy, hm_0.elem, hm_1.copy, hm_1.elem, hm_2.copy, hm_2.elem, h_1, q_10, q_11, q_12, q_13, q_14, q_15, h_19, h_27], by simp [restrict_mem, gP, gt, gg, hm0, c_164, c_165, i_143, hm_0.copy, hm_0.elem, hm_1.copy, hm_1.elem, hm_2.copy, hm_2.elem, h_1, q_10, q_11, q_12, q_13, q_14, q_15, h_19, h_27], by simp [restrict_mem, gP, gt, gg, hm0, c_164, c_165, i_143, hm_0.copy, hm_0.elem, hm_1.copy, hm_1.elem, hm_2.copy, hm_2.elem, h_1, q_10, q_11, q_12, q_13, q_14, q_15, h_19, h_27], (by repeat (first | exact ht_16 | exact tight_mem0 _ | exact hT.up | exact hT | refine Tight.restrict ?_ | refine Tight.upd ?_ (by simp) (by simp))), (by repeat (first | exact ha_17 | exact fun k hk => rfl | refine Agree.restrict hT ?_ | refine Agree.upd ?_ (by simp))), NoBoxD.restrict (by intro k hd hk hb; simp at hk hb; simp [hk, hb, gP, gt, gg, hm0, c_164, c_165, i_143, hm_0.copy, hm_0.elem, hm_1.copy, hm_1.elem, hm_2.copy, hm_2.elem, h_1, q_10, q_11, q_12, q_13, q_14, q_15, h_19, h_27, hn_18 k hd (by simp [hk, hb])])⟩
        · try simp at h_19
          cases hp
          try simp [gP, gt, gg, hm0, c_164, c_165, i_143, hm_0.copy, hm_0.elem, hm_1.copy, hm_1.elem, hm_2.copy, hm_2.elem, h_1, q_10, q_11, q_12, q_13, q_14, q_15, h_19]
          refine goal_outX ?_
          rw [X_8_]
          exact ⟨_, rfl, by simp [restrict_mem, gP, gt, gg, hm0, c_164, c_165, i_143, hm_0.copy, hm_0.elem, hm_1.copy, hm_1.elem, hm_2.copy, hm_2.elem, h_1, q_10, q_11, q_12, q_13, q_14, q_15, h_19], by simp [restrict_mem, gP, gt, gg, hm0, c_164, c_165, i_143, hm_0.copy, hm_0.elem, hm_1.copy, hm_1.elem, hm_2.copy, hm_2.elem, h_1, q_10, q_11, q_12, q_13, q_14, q_15, h_19], (by repeat (first | exact ht_16 | exact tight_mem0 _ | exact hT.up | exact hT | refine Tight.restrict ?_ | refine Tight.upd ?_ (by simp) (by simp))), (by repeat (first | exact ha_17 | exact fun k hk => rfl | refine Agree.restrict hT ?_ | refine Agree.upd ?_ (by simp))), NoBoxD.restrict (by intro k hd hk hb; simp at hk hb; simp [hk, hb, gP, gt, gg, hm0, c_164, c_165, i_143, hm_0.copy, hm_0.elem, hm_1.copy, hm_1.elem, hm_2.copy, hm_2.elem, h_1, q_10, q_11, q_12, q_13, q_14, q_15, h_19, hn_18 k hd (by simp [hk, hb])])⟩
      · intro out hX
        rw [X_8_] at hX
        rcases r_32 with r_32 | r_32
        · simp only [Sum.elim_inl, Sum.elim_inr] at hX hp
          obtain ⟨σ_35, rfl, ⟨mq_34, q_36⟩, q_37, q_38, q_39, ht_40, ha_41, hn_42⟩ := hX
          cases hp
          simp [Goal, FnEndE, memKill_hi, retR, rsrc, RSrc.val, nodupR, nodup, tupPart, gP, gt, gg, hm0, c_164, c_165, i_143, hm_0.copy, hm_0.elem, hm_1.copy, hm_1.elem, hm_2.copy, hm_2.elem, h_1, q_36, q_37, q_38, q_39, kill_back ha_41 hT]
        · simp only [Sum.elim_inl, Sum.elim_inr] at hX hp
          obtain ⟨σ_43, rfl, q_44, q_45, ht_46, ha_47, hn_48⟩ := hX
          cases hp
          simp [Goal, FnEndE, memKill_hi, retR, rsrc, RSrc.val, nodupR, nodup, tupPart, gP, gt, gg, hm0, c_164, c_165, i_143, hm_0.copy, hm_0.elem, hm_1.copy, hm_1.elem, hm_2.copy, hm_2.elem, h_1, q_44, q_45, kill_back ha_47 hT]

noncomputable def C99 : List AV → Option AV := specP (X := TStructure × TStructure × Unit) fun x => spec_FindEmbedding x.1 x.2.1
theorem C99_eq {s t} {y} (h : spec_FindEmbedding s t = some y) : C99 [av .shr s, av .shr t] = some (Res.res y) := specP_eq (X := TStructure × TStructure × Unit) (F := fun x => spec_FindEmbedding x.1 x.2.1) (x := (s, t, ())) h
noncomputable def g99 : Cfg := { P := Try.prog, take := [(99, 8), (143, 41)], keep := [((143, 4), { hd := [2, 3, 4, 8], bx := [], ex := [], rt := [6, 7] })], gho := [], ctx := [(164, C164), (165, C165)] }
@[simp] theorem g99_P : g99.P = Try.prog := rfl
@[simp] theorem g99_t : g99.take = [(99, 8), (143, 41)] := rfl
@[simp] theorem g99_g : g99.gho = [] := rfl
@[simp] theorem g99_164 : lookN 164 g99.ctx = some C164 := rfl
@[simp] theorem g99_165 : lookN 165 g99.ctx = some C165 := rfl
@[simp] theorem g99_143 : lookN 143 g99.ctx = none := rfl
set_option maxHeartbeats 4000000 in
set_option maxRecDepth 100000 in
theorem w99 {s t} {y} (hp : spec_FindEmbedding s t = some y) : ∃ m, callo g99 0 99 [av .shr s, av .shr t] mem0 = some (Res.res y, m) := by
  have G_143 : G143 g99 := ⟨rfl, by kernel_rfl, rfl, fun t => by simp, fun i => by simp [lookK], by simp [g99, lookK], by simp⟩
  refine start_fn (Try.f99.body.getD .skip) [.tmp 4, .tmp 5] rfl rfl Try.func99 (by kernel_rfl) (by kernel_rfl) (by simp [Try.ntmps99]) rfl ?_
  unfold spec_FindEmbedding at hp
  obtain ⟨y_1, h_2, hp⟩ := bind_some hp
  simp [Try.f99]
  refine goal_callE [av .shr s, av .shr t, av .bor []] (fun r => ∃ me_3 : Md, r = .tu [tupM me_3 y_1.1, tup y_1.2]) (by simp) (wI143 G_143 _ (by repeat (first | exact tight_mem0 _ | exact hT.up | exact hT | (simp only [true_and]; done) | refine Tight.upd ?_ (by simp) (by simp))) (.inl rfl) (.inl rfl) (.inr rfl) (fixO_some h_2).choose_spec) ?_
  rintro _ ⟨me_3, rfl⟩
  try simp
  rcases cond_cases hp with ⟨h_4, hp⟩ | ⟨h_4, hp⟩
  · try simp at h_4
    obtain ⟨_, h_5, hp⟩ := bind_some hp
    have b_6 := room_ok h_5
    try simp at b_6
    cases hp
    simp [Goal, FnEnd, retR, rsrc, RSrc.val, nodupR, nodup, tupPart, h_4, b_6]
  · try simp at h_4
    cases hp
    simp [Goal, FnEnd, retR, rsrc, RSrc.val, nodupR, nodup, tupPart, h_4]
theorem pc99 : PC Try.prog 99 C99 := pc_of (g := g99) (ctxOK_of [(164, C164), (165, C165)] rfl ⟨pc164, pc165, trivial⟩) ⟨Try.f99, Try.func99, by kernel_rfl, by kernel_rfl⟩ fun x y h => w99 h

noncomputable def C41 : List AV → Option AV := specP (X := TStructure × TStructure × Unit) fun x => spec_IsEmbedded x.1 x.2.1
theorem C41_eq {s t} {y} (h : spec_IsEmbedded s t = some y) : C41 [av .shr s, av .shr t] = some (Res.res y) := specP_eq (X := TStructure × TStructure × Unit) (F := fun x => spec_IsEmbedded x.1 x.2.1) (x := (s, t, ())) h
noncomputable def g41 : Cfg := { P := Try.prog, take := [(41, 7)], keep := [], gho := [], ctx := [(99, C99)] }
@[simp] theorem g41_P : g41.P = Try.prog := rfl
@[simp] theorem g41_t : g41.take = [(41, 7)] := rfl
@[simp] theorem g41_g : g41.gho = [] := rfl
@[simp] theorem g41_99 : lookN 99 g41.ctx = some C99 := rfl
set_option maxHeartbeats 4000000 in
set_option maxRecDepth 100000 in
theorem w41 {s t} {y} (hp : spec_IsEmbedded s t = some y) : ∃ m, callo g41 0 41 [av .shr s, av .shr t] mem0 = some (Res.res y, m) := by
  refine start_fn (Try.f41.body.getD .skip) [.tmp 4] rfl rfl Try.func41 (by kernel_rfl) (by kernel_rfl) (by simp [Try.ntmps41]) rfl ?_
  unfold spec_IsEmbedded at hp
  obtain ⟨y_1, h_2, hp⟩ := bind_some hp
  have c_3 := C99_eq h_2
  simp at c_3
  cases hp
  simp [Try.f41, Goal, FnEnd, c_3]
theorem pc41 : PC Try.prog 41 C41 := pc_of (g := g41) (ctxOK_of [(99, C99)] rfl ⟨pc99, trivial⟩) ⟨Try.f41, Try.func41, by kernel_rfl, by kernel_rfl⟩ fun x y h => w41 h

noncomputable def C43 : List AV → Option AV := specP (X := TStructure × THeap × Unit) fun x => spec_Describes x.1 x.2.1
theorem C43_eq {t h_} {y} (h : spec_Describes t h_ = some y) : C43 [av .shr t, av .shr h_] = some (Res.res y) := specP_eq (X := TStructure × THeap × Unit) (F := fun x => spec_Describes x.1 x.2.1) (x := (t, h_, ())) h
noncomputable def g43 : Cfg := { P := Try.prog, take := [], keep := [], gho := [], ctx := [(41, C41), (102, C102)] }
@[simp] theorem g43_P : g43.P = Try.prog := rfl
@[simp] theorem g43_t : g43.take = [] := rfl
@[simp] theorem g43_g : g43.gho = [] := rfl
@[simp] theorem g43_41 : lookN 41 g43.ctx = some C41 := rfl
@[simp] theorem g43_102 : lookN 102 g43.ctx = some C102 := rfl
set_option maxHeartbeats 4000000 in
set_option maxRecDepth 100000 in
theorem w43 {t h_} {y} (hp : spec_Describes t h_ = some y) : ∃ m, callo g43 0 43 [av .shr t, av .shr h_] mem0 = some (Res.res y, m) := by
  refine start_fn (Try.f43.body.getD .skip) [.tmp 4] rfl rfl Try.func43 (by kernel_rfl) (by kernel_rfl) (by simp [Try.ntmps43]) rfl ?_
  unfold spec_Describes at hp
  obtain ⟨y_1, h_2, hp⟩ := bind_some hp
  have c_3 := C102_eq h_2
  simp at c_3
  obtain ⟨y_4, h_5, hp⟩ := bind_some hp
  have c_6 := C41_eq h_5
  simp at c_6
  cases hp
  simp [Try.f43, Goal, FnEnd, c_3, c_6]
theorem pc43 : PC Try.prog 43 C43 := pc_of (g := g43) (ctxOK_of [(41, C41), (102, C102)] rfl ⟨pc41, pc102, trivial⟩) ⟨Try.f43, Try.func43, by kernel_rfl, by kernel_rfl⟩ fun x y h => w43 h

noncomputable def C138 : List AV → Option AV := specP (X := (List TStructure) × THeap × Unit) fun x => spec_SetDescribes x.1 x.2.1
theorem C138_eq {set h_} {y} (h : spec_SetDescribes set h_ = some y) : C138 [av .shr set, av .shr h_] = some (Res.res y) := specP_eq (X := (List TStructure) × THeap × Unit) (F := fun x => spec_SetDescribes x.1 x.2.1) (x := (set, h_, ())) h
noncomputable def g138 : Cfg := { P := Try.prog, take := [], keep := [((138, 2), { hd := [0, 3, 5], bx := [], ex := [], rt := [4] })], gho := [], ctx := [(43, C43)] }
@[simp] theorem g138_P : g138.P = Try.prog := rfl
@[simp] theorem g138_t : g138.take = [] := rfl
@[simp] theorem g138_g : g138.gho = [] := rfl
@[simp] theorem g138_43 : lookN 43 g138.ctx = some C43 := rfl
set_option maxHeartbeats 4000000 in
set_option maxRecDepth 100000 in
theorem w138 {set h_} {y} (hp : spec_SetDescribes set h_ = some y) : ∃ m, callo g138 0 138 [av .shr set, av .shr h_] mem0 = some (Res.res y, m) := by
  refine start_fn (Try.f138.body.getD .skip) [.tmp 4] rfl rfl Try.func138 (by kernel_rfl) (by kernel_rfl) (by simp [Try.ntmps138]) rfl ?_
  unfold spec_SetDescribes at hp
  simp [Try.f138]
  obtain ⟨r_21, h_22, hp⟩ := bind_some hp
  obtain ⟨I_3, I_3_⟩ : ∃ I : Int → St → Prop, I = (fun (s_1 : Int) (σ : St) => σ.env 0 = .one (.l .shr set.length (encL set)) ∧ σ.env 3 = .one (.ptr (1, 3) 0) ∧ σ.env 5 = .one (.s (.int .i64 s_1)) ∧ σ.mem (1, 3) = some [(.l .shr h_.vars.length (encL h_.vars)), (.l .shr h_.next.length (encL h_.next))] ∧ NoBox [(1, 3)] σ.mem) := ⟨_, rfl⟩
  obtain ⟨X_4, X_4_⟩ : ∃ X : ((Bool) ⊕ (Unit)) → Out → Prop, X = (fun (r_21 : (Bool) ⊕ (Unit)) (out : Out) => Sum.elim (fun r_21 => ∃ σ : St, out = .ret σ ∧ σ.env 4 = .one (.s (.bool r_21)) ∧ σ.mem (1, 3) = some [(.l .shr h_.vars.length (encL h_.vars)), (.l .shr h_.next.length (encL h_.next))] ∧ NoBox [(1, 3)] σ.mem) (fun r_21 => ∃ σ : St, out = .exit 0 σ ∧ σ.mem (1, 3) = some [(.l .shr h_.vars.length (encL h_.vars)), (.l .shr h_.next.length (encL h_.next))] ∧ NoBox [(1, 3)] σ.mem) r_21) := ⟨_, rfl⟩
  refine loopP ({ hd := [0, 3, 5], bx := [], ex := [], rt := [4] }) I_3 X_4 h_22 (by exact rfl) ?_ ?_ ?_
  · rw [I_3_]
    exact ⟨by simp [restrict_env], by simp [restrict_env], by simp [restrict_env], by simp [restrict_mem], NoBox.restrict (by intro k hk hb; simp at hk hb; simp [hk, hb])⟩
  · intro s_1 σ_5 a_2 hI hp
    rw [I_3_] at hI
    obtain ⟨q_6, q_7, q_8, q_9, hn_10⟩ := hI
    try simp [q_6, q_7, q_8, q_9]
    rcases cond_cases hp with ⟨h_11, hp⟩ | ⟨h_11, hp⟩
    · try simp at h_11
      obtain ⟨e_12, h_13, hp⟩ := bind_some hp
      have b_14 := at_lo h_13
      have b_15 := at_hi h_13
      try simp at b_14
      try simp at b_15
      have c_16 := seg_at' h_13 0 2 (by decide) (ds := [.sl e_12.nodes.length (encL e_12.nodes), .sl e_12.next.length (encL e_12.next)]) rfl
      try simp at c_16
      obtain ⟨y_17, h_18, hp⟩ := bind_some hp
      have c_19 := C43_eq h_18
      simp at c_19
      try simp [q_6, q_7, q_8, q_9, h_11, b_14, b_15, c_16, c_19]
      rcases cond_cases hp with ⟨h_20, hp⟩ | ⟨h_20, hp⟩
      · try simp at h_20
        cases hp
        try simp [q_6, q_7, q_8, q_9, h_11, h_20]
        refine goal_outR ?_
        rw [X_4_]
        exact ⟨_, rfl, by simp [restrict_env, q_6, q_7, q_8, q_9, h_11, h_20], by simp [restrict_mem, q_6, q_7, q_8, q_9, h_11, h_20], NoBox.restrict (by intro k hk hb; simp at hk hb; simp [hk, hb, q_6, q_7, q_8, q_9, h_11, h_20, hn_10 k (by simp [hk, hb])])⟩
      · try simp at h_20
        cases hp
        try simp [q_6, q_7, q_8, q_9, h_11, h_20]
        refine goal_next ?_
        rw [I_3_]
        exact ⟨by simp [restrict_env, q_6, q_7, q_8, q_9, h_11, h_20], by simp [restrict_env, q_6, q_7, q_8, q_9, h_11, h_20], by simp [restrict_env, q_6, q_7, q_8, q_9, h_11, h_20], by simp [restrict_mem, q_6, q_7, q_8, q_9, h_11, h_20], NoBox.restrict (by intro k hk hb; simp at hk hb; simp [hk, hb, q_6, q_7, q_8, q_9, h_11, h_20, hn_10 k (by simp [hk, hb])])⟩
    · try simp at h_11
      cases hp
      try simp [q_6, q_7, q_8, q_9, h_11]
      refine goal_outX ?_
      rw [X_4_]
      exact ⟨_, rfl, by simp [restrict_mem, q_6, q_7, q_8, q_9, h_11], NoBox.restrict (by intro k hk hb; simp at hk hb; simp [hk, hb, q_6, q_7, q_8, q_9, h_11, hn_10 k (by simp [hk, hb])])⟩
  · intro out hX
    rw [X_4_] at hX
    rcases r_21 with r_21 | r_21
    · simp only [Sum.elim_inl, Sum.elim_inr] at hX hp
      obtain ⟨σ_23, rfl, q_24, q_25, hn_26⟩ := hX
      cases hp
      simp [Goal, FnEnd, q_24, q_25]
    · simp only [Sum.elim_inl, Sum.elim_inr] at hX hp
      obtain ⟨σ_27, rfl, q_28, hn_29⟩ := hX
      cases hp
      simp [Goal, FnEnd, q_28]
theorem pc138 : PC Try.prog 138 C138 := pc_of (g := g138) (ctxOK_of [(43, C43)] rfl ⟨pc43, trivial⟩) ⟨Try.f138, Try.func138, by kernel_rfl, by kernel_rfl⟩ fun x y h => w138 h
end Go.Proofs
