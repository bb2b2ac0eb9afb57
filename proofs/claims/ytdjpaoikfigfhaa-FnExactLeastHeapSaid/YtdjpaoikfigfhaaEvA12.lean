import Derived.Test.YtdjpaoikfigfhaaEvA11
set_option linter.unusedSimpArgs false
set_option linter.unusedVariables false
set_option linter.unnecessarySimpa false
namespace Go.Proofs
open Go.Ev
noncomputable def C51 : List AV → Option AV := specP (X := (List Int) × Int × Unit) fun x => laws_szIntS x.1 x.2.1
theorem C51_eq {a_ left} {y} (h : laws_szIntS a_ left = some y) : C51 [av .shr a_, av .shr left] = some (Res.res y) := specP_eq (X := (List Int) × Int × Unit) (F := fun x => laws_szIntS x.1 x.2.1) (x := (a_, left, ())) h
noncomputable def g51 : Cfg := { P := Try.prog, take := [], keep := [], gho := [], ctx := [] }
@[simp] theorem g51_P : g51.P = Try.prog := rfl
@[simp] theorem g51_t : g51.take = [] := rfl
@[simp] theorem g51_g : g51.gho = [] := rfl
@[simp] theorem g51_r : g51.ro = [] := rfl
@[simp] theorem g51_w : g51.away = [] := by rw [g51]
set_option maxHeartbeats 4000000 in
set_option maxRecDepth 100000 in
theorem w51 {a_ left} {y} (hp : laws_szIntS a_ left = some y) : ∃ m, callo g51 0 51 [av .shr a_, av .shr left] mem0 = some (Res.res y, m) := by
  refine start_fn (Try.f51.body.getD .skip) [.tmp 4] rfl rfl Try.func51 (by kernel_rfl) (by kernel_rfl) (by simp [Try.ntmps51]) rfl ?_
  unfold laws_szIntS at hp
  simp [Try.f51]
  rcases cond_cases hp with ⟨h_1, hp⟩ | ⟨h_1, hp⟩
  · try simp at h_1
    cases hp
    simp [Goal, FnEnd, h_1]
  · try simp at h_1
    cases hp
    simp [Goal, FnEnd, h_1]
theorem pc51 : PC Try.prog 51 C51 := pc_of (g := g51) (fun f F h => by cases h) ⟨Try.f51, Try.func51, by kernel_rfl, by kernel_rfl⟩ fun x y h => w51 h

noncomputable def C101 : List AV → Option AV := specP (X := TNode × Int × Unit) fun x => laws_szNode x.1 x.2.1
theorem C101_eq {a_ left} {y} (h : laws_szNode a_ left = some y) : C101 [av .shr a_, av .shr left] = some (Res.res y) := specP_eq (X := TNode × Int × Unit) (F := fun x => laws_szNode x.1 x.2.1) (x := (a_, left, ())) h
noncomputable def g101 : Cfg := { P := Try.prog, take := [], keep := [], gho := [], ctx := [(51, C51)] }
@[simp] theorem g101_P : g101.P = Try.prog := rfl
@[simp] theorem g101_t : g101.take = [] := rfl
@[simp] theorem g101_g : g101.gho = [] := rfl
@[simp] theorem g101_r : g101.ro = [] := rfl
@[simp] theorem g101_w : g101.away = [] := by rw [g101]
@[simp] theorem g101_51 : lookN 51 g101.ctx = some C51 := rfl
set_option maxHeartbeats 4000000 in
set_option maxRecDepth 100000 in
theorem w101 {a_ left} {y} (hp : laws_szNode a_ left = some y) : ∃ m, callo g101 0 101 [av .shr a_, av .shr left] mem0 = some (Res.res y, m) := by
  refine start_fn (Try.f101.body.getD .skip) [.tmp 4] rfl rfl Try.func101 (by kernel_rfl) (by kernel_rfl) (by simp [Try.ntmps101]) rfl ?_
  unfold laws_szNode at hp
  obtain ⟨y_1, h_2, hp⟩ := bind_some hp
  have c_3 := C51_eq h_2
  simp at c_3
  simp [Try.f101, c_3]
  rcases cond_cases hp with ⟨h_4, hp⟩ | ⟨h_4, hp⟩
  · try simp at h_4
    cases hp
    simp [Goal, FnEnd, h_4]
  · try simp at h_4
    obtain ⟨y_5, h_6, hp⟩ := bind_some hp
    have c_7 := C51_eq h_6
    simp at c_7
    try simp [h_4, c_7]
    rcases cond_cases hp with ⟨h_8, hp⟩ | ⟨h_8, hp⟩
    · try simp at h_8
      cases hp
      simp [Goal, FnEnd, h_4, h_8]
    · try simp at h_8
      cases hp
      simp [Goal, FnEnd, h_4, h_8]
theorem pc101 : PC Try.prog 101 C101 := pc_of (g := g101) (ctxOK_of [(51, C51)] rfl ⟨pc51, trivial⟩) ⟨Try.f101, Try.func101, by kernel_rfl, by kernel_rfl⟩ fun x y h => w101 h

noncomputable def C50 : List AV → Option AV := specP (X := (List TNode) × Int × Unit) fun x => laws_szNodeS x.1 x.2.1
theorem C50_eq {a_ left} {y} (h : laws_szNodeS a_ left = some y) : C50 [av .shr a_, av .shr left] = some (Res.res y) := specP_eq (X := (List TNode) × Int × Unit) (F := fun x => laws_szNodeS x.1 x.2.1) (x := (a_, left, ())) h
noncomputable def g50 : Cfg := { P := Try.prog, take := [], keep := [((50, 5), { hd := [0, 1, 5], bx := [], ex := [1], rt := [4] })], gho := [], ctx := [(101, C101)] }
@[simp] theorem g50_P : g50.P = Try.prog := rfl
@[simp] theorem g50_t : g50.take = [] := rfl
@[simp] theorem g50_g : g50.gho = [] := rfl
@[simp] theorem g50_r : g50.ro = [] := rfl
@[simp] theorem g50_w : g50.away = [] := by rw [g50]
@[simp] theorem g50_101 : lookN 101 g50.ctx = some C101 := rfl
set_option maxHeartbeats 4000000 in
set_option maxRecDepth 100000 in
theorem w50 {a_ left} {y} (hp : laws_szNodeS a_ left = some y) : ∃ m, callo g50 0 50 [av .shr a_, av .shr left] mem0 = some (Res.res y, m) := by
  refine start_fn (Try.f50.body.getD .skip) [.tmp 4] rfl rfl Try.func50 (by kernel_rfl) (by kernel_rfl) (by simp [Try.ntmps50]) rfl ?_
  unfold laws_szNodeS at hp
  simp [Try.f50]
  rcases cond_cases hp with ⟨h_1, hp⟩ | ⟨h_1, hp⟩
  · try simp at h_1
    cases hp
    simp [Goal, FnEnd, h_1]
  · try simp at h_1
    try simp [h_1]
    obtain ⟨r_21, h_22, hp⟩ := bind_some hp
    obtain ⟨I_4, I_4_⟩ : ∃ I : Int × Int → St → Prop, I = (fun (s_2 : Int × Int) (σ : St) => σ.env 0 = .one (.l .shr a_.length (encL a_)) ∧ σ.env 1 = .one (.s (.int .i64 s_2.1)) ∧ σ.env 5 = .one (.s (.int .i64 s_2.2)) ∧ σ.mem = mem0) := ⟨_, rfl⟩
    obtain ⟨X_5, X_5_⟩ : ∃ X : ((Int) ⊕ (Int)) → Out → Prop, X = (fun (r_21 : (Int) ⊕ (Int)) (out : Out) => Sum.elim (fun r_21 => ∃ σ : St, out = .ret σ ∧ σ.env 4 = .one (.s (.int .i64 r_21)) ∧ σ.mem = mem0) (fun r_21 => ∃ σ : St, out = .exit 0 σ ∧ σ.env 1 = .one (.s (.int .i64 r_21)) ∧ σ.mem = mem0) r_21) := ⟨_, rfl⟩
    refine loopP ({ hd := [0, 1, 5], bx := [], ex := [1], rt := [4] }) I_4 X_5 h_22 (by exact rfl) ?_ ?_ ?_
    · rw [I_4_]
      refine ⟨?_, ?_, ?_, ?_⟩ <;> simp [restrict_env, restrict_mem, h_1]
    · intro s_2 σ_6 a_3 hI hp
      rw [I_4_] at hI
      obtain ⟨q_7, q_8, q_9, q_10⟩ := hI
      try simp [h_1, q_7, q_8, q_9, q_10]
      rcases cond_cases hp with ⟨h_11, hp⟩ | ⟨h_11, hp⟩
      · try simp at h_11
        obtain ⟨e_12, h_13, hp⟩ := bind_some hp
        have b_14 := at_lo h_13
        have b_15 := at_hi h_13
        try simp at b_14
        try simp at b_15
        have c_16 := seg_at' h_13 0 4 (by decide) (ds := [.sl e_12.vars.length (encL e_12.vars), .sl e_12.reach.length (encL e_12.reach), .sc (.int .i64 e_12.shared), .sc (.int .i64 e_12.many)]) rfl
        try simp at c_16
        obtain ⟨y_17, h_18, hp⟩ := bind_some hp
        have c_19 := C101_eq h_18
        simp at c_19
        try simp [h_1, q_7, q_8, q_9, q_10, h_11, b_14, b_15, c_16, c_19]
        rcases cond_cases hp with ⟨h_20, hp⟩ | ⟨h_20, hp⟩
        · try simp at h_20
          cases hp
          try simp [h_1, q_7, q_8, q_9, q_10, h_11, h_20]
          refine goal_outR ?_
          rw [X_5_]
          refine ⟨_, rfl, ?_, ?_⟩ <;> simp [restrict_env, restrict_mem, h_1, q_7, q_8, q_9, q_10, h_11, h_20]
        · try simp at h_20
          cases hp
          try simp [h_1, q_7, q_8, q_9, q_10, h_11, h_20]
          refine goal_next ?_
          rw [I_4_]
          refine ⟨?_, ?_, ?_, ?_⟩ <;> simp [restrict_env, restrict_mem, h_1, q_7, q_8, q_9, q_10, h_11, h_20]
      · try simp at h_11
        cases hp
        try simp [h_1, q_7, q_8, q_9, q_10, h_11]
        refine goal_outX ?_
        rw [X_5_]
        refine ⟨_, rfl, ?_, ?_⟩ <;> simp [restrict_env, restrict_mem, h_1, q_7, q_8, q_9, q_10, h_11]
    · intro out hX
      rw [X_5_] at hX
      rcases r_21 with r_21 | r_21
      · simp only [Sum.elim_inl, Sum.elim_inr] at hX hp
        obtain ⟨σ_23, rfl, q_24, q_25⟩ := hX
        cases hp
        simp [Goal, FnEnd, h_1, q_24, q_25]
      · simp only [Sum.elim_inl, Sum.elim_inr] at hX hp
        obtain ⟨σ_26, rfl, q_27, q_28⟩ := hX
        cases hp
        simp [Goal, FnEnd, h_1, q_27, q_28]
theorem pc50 : PC Try.prog 50 C50 := pc_of (g := g50) (ctxOK_of [(101, C101)] rfl ⟨pc101, trivial⟩) ⟨Try.f50, Try.func50, by kernel_rfl, by kernel_rfl⟩ fun x y h => w50 h

noncomputable def C11 : List AV → Option AV := specP (X := TStructure × Int × Unit) fun x => laws_szStructure x.1 x.2.1
theorem C11_eq {a_ left} {y} (h : laws_szStructure a_ left = some y) : C11 [av .shr a_, av .shr left] = some (Res.res y) := specP_eq (X := TStructure × Int × Unit) (F := fun x => laws_szStructure x.1 x.2.1) (x := (a_, left, ())) h
noncomputable def g11 : Cfg := { P := Try.prog, take := [], keep := [], gho := [], ctx := [(50, C50), (51, C51)] }
@[simp] theorem g11_P : g11.P = Try.prog := rfl
@[simp] theorem g11_t : g11.take = [] := rfl
@[simp] theorem g11_g : g11.gho = [] := rfl
@[simp] theorem g11_r : g11.ro = [] := rfl
@[simp] theorem g11_w : g11.away = [] := by rw [g11]
@[simp] theorem g11_50 : lookN 50 g11.ctx = some C50 := rfl
@[simp] theorem g11_51 : lookN 51 g11.ctx = some C51 := rfl
set_option maxHeartbeats 4000000 in
set_option maxRecDepth 100000 in
theorem w11 {a_ left} {y} (hp : laws_szStructure a_ left = some y) : ∃ m, callo g11 0 11 [av .shr a_, av .shr left] mem0 = some (Res.res y, m) := by
  refine start_fn (Try.f11.body.getD .skip) [.tmp 4] rfl rfl Try.func11 (by kernel_rfl) (by kernel_rfl) (by simp [Try.ntmps11]) rfl ?_
  unfold laws_szStructure at hp
  obtain ⟨y_1, h_2, hp⟩ := bind_some hp
  have c_3 := C50_eq h_2
  simp at c_3
  simp [Try.f11, c_3]
  rcases cond_cases hp with ⟨h_4, hp⟩ | ⟨h_4, hp⟩
  · try simp at h_4
    cases hp
    simp [Goal, FnEnd, h_4]
  · try simp at h_4
    obtain ⟨y_5, h_6, hp⟩ := bind_some hp
    have c_7 := C51_eq h_6
    simp at c_7
    try simp [h_4, c_7]
    rcases cond_cases hp with ⟨h_8, hp⟩ | ⟨h_8, hp⟩
    · try simp at h_8
      cases hp
      simp [Goal, FnEnd, h_4, h_8]
    · try simp at h_8
      cases hp
      simp [Goal, FnEnd, h_4, h_8]
theorem pc11 : PC Try.prog 11 C11 := pc_of (g := g11) (ctxOK_of [(50, C50), (51, C51)] rfl ⟨pc50, pc51, trivial⟩) ⟨Try.f11, Try.func11, by kernel_rfl, by kernel_rfl⟩ fun x y h => w11 h

noncomputable def C53 : List AV → Option AV := specP (X := (List Int) × Unit) fun x => laws_toIntS x.1
theorem C53_eq {a_} {y} (h : laws_toIntS a_ = some y) : C53 [av .shr a_] = some (Res.res y) := specP_eq (X := (List Int) × Unit) (F := fun x => laws_toIntS x.1) (x := (a_, ())) h
noncomputable def g53 : Cfg := { P := Try.prog, take := [(53, 7)], keep := [((53, 3), { hd := [0, 3, 4], bx := [], ex := [3], rt := [2] })], gho := [((53, atEnd), [.frz (.sl 2 0)])], ctx := [] }
@[simp] theorem g53_P : g53.P = Try.prog := rfl
@[simp] theorem g53_t : g53.take = [(53, 7)] := rfl
@[simp] theorem g53_g : g53.gho = [((53, atEnd), [.frz (.sl 2 0)])] := rfl
@[simp] theorem g53_r : g53.ro = [] := rfl
@[simp] theorem g53_w : g53.away = [] := by rw [g53]
set_option maxHeartbeats 4000000 in
set_option maxRecDepth 100000 in
theorem w53 {a_} {y} (hp : laws_toIntS a_ = some y) : ∃ m, callo g53 0 53 [av .shr a_] mem0 = some (Res.res y, m) := by
  refine start_fn (Try.f53.body.getD .skip) [.tmp 2] rfl rfl Try.func53 (by kernel_rfl) (by kernel_rfl) (by simp [Try.ntmps53]) rfl ?_
  unfold laws_toIntS at hp
  obtain ⟨_, h_1, hp⟩ := bind_some hp
  have b_2 := roomI_lo h_1
  have b_3 := roomI_ok h_1
  try simp at b_2
  try simp at b_3
  have r_4 := row_replicate (a_.length : Int).toNat (0 : Int) (by rfl)
  try simp at r_4
  simp [Try.f53, b_2, b_3, r_4]
  obtain ⟨r_27, h_28, hp⟩ := bind_some hp
  obtain ⟨I_7, I_7_⟩ : ∃ I : Int × (List Int) → St → Prop, I = (fun (s_5 : Int × (List Int)) (σ : St) => σ.env 0 = .one (.l .shr a_.length (encL a_)) ∧ σ.env 3 = .one (.bs (1, 7) s_5.2.length 1) ∧ σ.env 4 = .one (.s (.int .i64 s_5.1)) ∧ σ.mem (1, 7) = some (rowC s_5.2) ∧ NoBox [(1, 7)] σ.mem) := ⟨_, rfl⟩
  obtain ⟨X_8, X_8_⟩ : ∃ X : (List Int) → Out → Prop, X = (fun (r_27 : (List Int)) (out : Out) => ∃ σ : St, out = .exit 0 σ ∧ σ.env 3 = .one (.bs (1, 7) r_27.length 1) ∧ σ.mem (1, 7) = some (rowC r_27) ∧ NoBox [(1, 7)] σ.mem) := ⟨_, rfl⟩
  refine loopP ({ hd := [0, 3, 4], bx := [], ex := [3], rt := [2] }) I_7 X_8 h_28 (by exact rfl) ?_ ?_ ?_
  · rw [I_7_]
    refine ⟨?_, ?_, ?_, ?_, NoBox.restrict (by intro k hk hb; simp at hk hb; simp [hk, hb])⟩ <;> simp [restrict_env, restrict_mem]
  · intro s_5 σ_9 a_6 hI hp
    rw [I_7_] at hI
    obtain ⟨q_10, q_11, q_12, q_13, hn_14⟩ := hI
    try simp [q_10, q_11, q_12, q_13]
    rcases cond_cases hp with ⟨h_15, hp⟩ | ⟨h_15, hp⟩
    · try simp at h_15
      obtain ⟨e_16, h_17, hp⟩ := bind_some hp
      have b_18 := at_lo h_17
      have b_19 := at_hi h_17
      try simp at b_18
      try simp at b_19
      have c_20 := seg_at' h_17 0 1 (by decide) (ds := [.sc (.int .i64 e_16)]) rfl
      try simp at c_20
      obtain ⟨e_21, h_22, hp⟩ := bind_some hp
      have b_23 := at_lo h_22
      have b_24 := at_hi h_22
      try simp at b_23
      try simp at b_24
      have c_25 := splice_row h_22 0 e_16 [(.s (.int .i64 e_16))] (by simp) rfl
      try simp at c_25
      have l_26 := row_room h_22 0 (m := 1) (by decide)
      try simp at l_26
      cases hp
      try simp [q_10, q_11, q_12, q_13, h_15, b_18, b_19, c_20, b_23, b_24, c_25, l_26]
      refine goal_next ?_
      rw [I_7_]
      refine ⟨?_, ?_, ?_, ?_, NoBox.restrict (by intro k hk hb; simp at hk hb; simp [hk, hb, q_10, q_11, q_12, q_13, h_15, b_18, b_19, c_20, b_23, b_24, c_25, l_26, hn_14 k (by simp [hk, hb])])⟩ <;> simp [restrict_env, restrict_mem, q_10, q_11, q_12, q_13, h_15, b_18, b_19, c_20, b_23, b_24, c_25, l_26]
    · try simp at h_15
      cases hp
      try simp [q_10, q_11, q_12, q_13, h_15]
      refine goal_outX ?_
      rw [X_8_]
      refine ⟨_, rfl, ?_, ?_, NoBox.restrict (by intro k hk hb; simp at hk hb; simp [hk, hb, q_10, q_11, q_12, q_13, h_15, hn_14 k (by simp [hk, hb])])⟩ <;> simp [restrict_env, restrict_mem, q_10, q_11, q_12, q_13, h_15]
  · intro out hX
    rw [X_8_] at hX
    obtain ⟨σ_29, rfl, q_30, q_31, hn_32⟩ := hX
    cases hp
    simp [Goal, FnEnd, q_30, q_31]
theorem pc53 : PC Try.prog 53 C53 := pc_of (g := g53) (fun f F h => by cases h) ⟨Try.f53, Try.func53, by kernel_rfl, by kernel_rfl⟩ fun x y h => w53 h

noncomputable def C102 : List AV → Option AV := specP (X := TNode × Unit) fun x => laws_toNode x.1
theorem C102_eq {a_} {y} (h : laws_toNode a_ = some y) : C102 [av .shr a_] = some (Res.res y) := specP_eq (X := TNode × Unit) (F := fun x => laws_toNode x.1) (x := (a_, ())) h
noncomputable def g102 : Cfg := { P := Try.prog, take := [(102, 18)], keep := [], gho := [], ctx := [(53, C53)] }
@[simp] theorem g102_P : g102.P = Try.prog := rfl
@[simp] theorem g102_t : g102.take = [(102, 18)] := rfl
@[simp] theorem g102_g : g102.gho = [] := rfl
@[simp] theorem g102_r : g102.ro = [] := rfl
@[simp] theorem g102_w : g102.away = [] := by rw [g102]
@[simp] theorem g102_53 : lookN 53 g102.ctx = some C53 := rfl
set_option maxHeartbeats 4000000 in
set_option maxRecDepth 100000 in
theorem w102 {a_} {y} (hp : laws_toNode a_ = some y) : ∃ m, callo g102 0 102 [av .shr a_] mem0 = some (Res.res y, m) := by
  refine start_fn (Try.f102.body.getD .skip) [.cell 2 115] rfl rfl Try.func102 (by kernel_rfl) (by kernel_rfl) (by simp [Try.ntmps102]) rfl ?_
  unfold laws_toNode at hp
  obtain ⟨y_1, h_2, hp⟩ := bind_some hp
  have c_3 := C53_eq h_2
  simp at c_3
  obtain ⟨y_4, h_5, hp⟩ := bind_some hp
  have c_6 := C53_eq h_5
  simp at c_6
  cases hp
  simp [Try.f102, Goal, FnEnd, retR, rsrc, RSrc.val, nodupR, nodup, tupPart, c_3, c_6]
theorem pc102 : PC Try.prog 102 C102 := pc_of (g := g102) (ctxOK_of [(53, C53)] rfl ⟨pc53, trivial⟩) ⟨Try.f102, Try.func102, by kernel_rfl, by kernel_rfl⟩ fun x y h => w102 h

noncomputable def C52 : List AV → Option AV := specP (X := (List TNode) × Unit) fun x => laws_toNodeS x.1
theorem C52_eq {a_} {y} (h : laws_toNodeS a_ = some y) : C52 [av .shr a_] = some (Res.res y) := specP_eq (X := (List TNode) × Unit) (F := fun x => laws_toNodeS x.1) (x := (a_, ())) h
noncomputable def g52 : Cfg := { P := Try.prog, take := [(52, 7)], keep := [((52, 3), { hd := [0, 3, 4], bx := [], ex := [3], rt := [2] })], gho := [((52, atEnd), [.frz (.sl 2 0)])], ctx := [(102, C102)] }
@[simp] theorem g52_P : g52.P = Try.prog := rfl
@[simp] theorem g52_t : g52.take = [(52, 7)] := rfl
@[simp] theorem g52_g : g52.gho = [((52, atEnd), [.frz (.sl 2 0)])] := rfl
@[simp] theorem g52_r : g52.ro = [] := rfl
@[simp] theorem g52_w : g52.away = [] := by rw [g52]
@[simp] theorem g52_102 : lookN 102 g52.ctx = some C102 := rfl
set_option maxHeartbeats 4000000 in
set_option maxRecDepth 100000 in
theorem w52 {a_} {y} (hp : laws_toNodeS a_ = some y) : ∃ m, callo g52 0 52 [av .shr a_] mem0 = some (Res.res y, m) := by
  refine start_fn (Try.f52.body.getD .skip) [.tmp 2] rfl rfl Try.func52 (by kernel_rfl) (by kernel_rfl) (by simp [Try.ntmps52]) rfl ?_
  unfold laws_toNodeS at hp
  obtain ⟨_, h_1, hp⟩ := bind_some hp
  have b_2 := roomI_lo h_1
  have b_3 := roomI_ok h_1
  try simp at b_2
  try simp at b_3
  have r_4 := row_replicate (a_.length : Int).toNat ((⟨[], [], 0, 0⟩ : TNode) : TNode) (by rfl)
  try simp at r_4
  simp [Try.f52, b_2, b_3, r_4]
  obtain ⟨r_30, h_31, hp⟩ := bind_some hp
  obtain ⟨I_7, I_7_⟩ : ∃ I : Int × (List TNode) → St → Prop, I = (fun (s_5 : Int × (List TNode)) (σ : St) => σ.env 0 = .one (.l .shr a_.length (encL a_)) ∧ σ.env 3 = .one (.bs (1, 7) s_5.2.length 4) ∧ σ.env 4 = .one (.s (.int .i64 s_5.1)) ∧ σ.mem (1, 7) = some (rowC s_5.2) ∧ NoBox [(1, 7)] σ.mem) := ⟨_, rfl⟩
  obtain ⟨X_8, X_8_⟩ : ∃ X : (List TNode) → Out → Prop, X = (fun (r_30 : (List TNode)) (out : Out) => ∃ σ : St, out = .exit 0 σ ∧ σ.env 3 = .one (.bs (1, 7) r_30.length 4) ∧ σ.mem (1, 7) = some (rowC r_30) ∧ NoBox [(1, 7)] σ.mem) := ⟨_, rfl⟩
  refine loopP ({ hd := [0, 3, 4], bx := [], ex := [3], rt := [2] }) I_7 X_8 h_31 (by exact rfl) ?_ ?_ ?_
  · rw [I_7_]
    refine ⟨?_, ?_, ?_, ?_, NoBox.restrict (by intro k hk hb; simp at hk hb; simp [hk, hb])⟩ <;> simp [restrict_env, restrict_mem]
  · intro s_5 σ_9 a_6 hI hp
    rw [I_7_] at hI
    obtain ⟨q_10, q_11, q_12, q_13, hn_14⟩ := hI
    try simp [q_10, q_11, q_12, q_13]
    rcases cond_cases hp with ⟨h_15, hp⟩ | ⟨h_15, hp⟩
    · try simp at h_15
      obtain ⟨e_16, h_17, hp⟩ := bind_some hp
      have b_18 := at_lo h_17
      have b_19 := at_hi h_17
      try simp at b_18
      try simp at b_19
      have c_20 := seg_at' h_17 0 4 (by decide) (ds := [.sl e_16.vars.length (encL e_16.vars), .sl e_16.reach.length (encL e_16.reach), .sc (.int .i64 e_16.shared), .sc (.int .i64 e_16.many)]) rfl
      try simp at c_20
      obtain ⟨y_21, h_22, hp⟩ := bind_some hp
      have c_23 := C102_eq h_22
      simp at c_23
      obtain ⟨e_24, h_25, hp⟩ := bind_some hp
      have b_26 := at_lo h_25
      have b_27 := at_hi h_25
      try simp at b_26
      try simp at b_27
      have c_28 := splice_row h_25 0 y_21 [(.l .own y_21.vars.length (encL y_21.vars)), (.l .own y_21.reach.length (encL y_21.reach)), (.s (.int .i64 y_21.shared)), (.s (.int .i64 y_21.many))] (by simp) rfl
      try simp at c_28
      have l_29 := row_room h_25 0 (m := 4) (by decide)
      try simp at l_29
      cases hp
      try simp [q_10, q_11, q_12, q_13, h_15, b_18, b_19, c_20, c_23, b_26, b_27, c_28, l_29]
      refine goal_next ?_
      rw [I_7_]
      refine ⟨?_, ?_, ?_, ?_, NoBox.restrict (by intro k hk hb; simp at hk hb; simp [hk, hb, q_10, q_11, q_12, q_13, h_15, b_18, b_19, c_20, c_23, b_26, b_27, c_28, l_29, hn_14 k (by simp [hk, hb])])⟩ <;> simp [restrict_env, restrict_mem, q_10, q_11, q_12, q_13, h_15, b_18, b_19, c_20, c_23, b_26, b_27, c_28, l_29]
    · try simp at h_15
      cases hp
      try simp [q_10, q_11, q_12, q_13, h_15]
      refine goal_outX ?_
      rw [X_8_]
      refine ⟨_, rfl, ?_, ?_, NoBox.restrict (by intro k hk hb; simp at hk hb; simp [hk, hb, q_10, q_11, q_12, q_13, h_15, hn_14 k (by simp [hk, hb])])⟩ <;> simp [restrict_env, restrict_mem, q_10, q_11, q_12, q_13, h_15]
  · intro out hX
    rw [X_8_] at hX
    obtain ⟨σ_32, rfl, q_33, q_34, hn_35⟩ := hX
    cases hp
    simp [Goal, FnEnd, q_33, q_34]
theorem pc52 : PC Try.prog 52 C52 := pc_of (g := g52) (ctxOK_of [(102, C102)] rfl ⟨pc102, trivial⟩) ⟨Try.f52, Try.func52, by kernel_rfl, by kernel_rfl⟩ fun x y h => w52 h

noncomputable def C13 : List AV → Option AV := specP (X := TStructure × Unit) fun x => laws_toStructure x.1
theorem C13_eq {a_} {y} (h : laws_toStructure a_ = some y) : C13 [av .shr a_] = some (Res.res y) := specP_eq (X := TStructure × Unit) (F := fun x => laws_toStructure x.1) (x := (a_, ())) h
noncomputable def g13 : Cfg := { P := Try.prog, take := [(13, 12)], keep := [], gho := [], ctx := [(52, C52), (53, C53)] }
@[simp] theorem g13_P : g13.P = Try.prog := rfl
@[simp] theorem g13_t : g13.take = [(13, 12)] := rfl
@[simp] theorem g13_g : g13.gho = [] := rfl
@[simp] theorem g13_r : g13.ro = [] := rfl
@[simp] theorem g13_w : g13.away = [] := by rw [g13]
@[simp] theorem g13_52 : lookN 52 g13.ctx = some C52 := rfl
@[simp] theorem g13_53 : lookN 53 g13.ctx = some C53 := rfl
set_option maxHeartbeats 4000000 in
set_option maxRecDepth 100000 in
theorem w13 {a_} {y} (hp : laws_toStructure a_ = some y) : ∃ m, callo g13 0 13 [av .shr a_] mem0 = some (Res.res y, m) := by
  refine start_fn (Try.f13.body.getD .skip) [.cell 2 33] rfl rfl Try.func13 (by kernel_rfl) (by kernel_rfl) (by simp [Try.ntmps13]) rfl ?_
  unfold laws_toStructure at hp
  obtain ⟨y_1, h_2, hp⟩ := bind_some hp
  have c_3 := C52_eq h_2
  simp at c_3
  obtain ⟨y_4, h_5, hp⟩ := bind_some hp
  have c_6 := C53_eq h_5
  simp at c_6
  cases hp
  simp [Try.f13, Goal, FnEnd, retR, rsrc, RSrc.val, nodupR, nodup, tupPart, c_3, c_6]
theorem pc13 : PC Try.prog 13 C13 := pc_of (g := g13) (ctxOK_of [(52, C52), (53, C53)] rfl ⟨pc52, pc53, trivial⟩) ⟨Try.f13, Try.func13, by kernel_rfl, by kernel_rfl⟩ fun x y h => w13 h

noncomputable def C111 : List AV → Option AV := specP (X := Int × Int × Int × Unit) fun x => spec_l1In x.1 x.2.1 x.2.2.1
theorem C111_eq {x_ lo hi} {y} (h : spec_l1In x_ lo hi = some y) : C111 [av .shr x_, av .shr lo, av .shr hi] = some (Res.res y) := specP_eq (X := Int × Int × Int × Unit) (F := fun x => spec_l1In x.1 x.2.1 x.2.2.1) (x := (x_, lo, hi, ())) h
noncomputable def g111 : Cfg := { P := Try.prog, take := [], keep := [], gho := [], ctx := [] }
@[simp] theorem g111_P : g111.P = Try.prog := rfl
@[simp] theorem g111_t : g111.take = [] := rfl
@[simp] theorem g111_g : g111.gho = [] := rfl
@[simp] theorem g111_r : g111.ro = [] := rfl
@[simp] theorem g111_w : g111.away = [] := by rw [g111]
set_option maxHeartbeats 4000000 in
set_option maxRecDepth 100000 in
theorem w111 {x_ lo hi} {y} (hp : spec_l1In x_ lo hi = some y) : ∃ m, callo g111 0 111 [av .shr x_, av .shr lo, av .shr hi] mem0 = some (Res.res y, m) := by
  refine start_fn (Try.f111.body.getD .skip) [.tmp 6] rfl rfl Try.func111 (by kernel_rfl) (by kernel_rfl) (by simp [Try.ntmps111]) rfl ?_
  unfold spec_l1In at hp
  simp [Try.f111]
  rcases cond_cases hp with ⟨h_1, hp⟩ | ⟨h_1, hp⟩
  · try simp at h_1
    cases hp
    simp [Goal, FnEnd, h_1]
  · try simp at h_1
    cases hp
    simp [Goal, FnEnd, h_1]
theorem pc111 : PC Try.prog 111 C111 := pc_of (g := g111) (fun f F h => by cases h) ⟨Try.f111, Try.func111, by kernel_rfl, by kernel_rfl⟩ fun x y h => w111 h

abbrev G136 (g : Cfg) : Prop := Has Try.prog g 136 Try.f136 [29, 39] [(9, { hd := [1, 5, 6, 7, 8], bx := [], ex := [1, 5, 6, 7], rt := [4] }), (6, { hd := [1, 5, 6, 7], bx := [], ex := [5], rt := [4] })] [] []
set_option maxHeartbeats 4000000 in
set_option maxRecDepth 100000 in
theorem wI136 {g : Cfg} (G : G136 g) (fu : Nat) : ∀ {d : Nat} {mem : Mem} (hT : Tight d mem)  {n_ : Int} {most : Int}  {y} (hp : fixN R_spec_l9Lists fu (n_, most, ()) = some y), callo g d 136 [av .shr n_, av .shr most] mem = some (Res.res y, mem) := by
  have gP := G.P; have gt := G.tk; have gr := G.ro; have gg := G.gh
  have i_136 := G.no
  have k_9 := G.kp (9, { hd := [1, 5, 6, 7, 8], bx := [], ex := [1, 5, 6, 7], rt := [4] }) (by simp)
  have k_6 := G.kp (6, { hd := [1, 5, 6, 7], bx := [], ex := [5], rt := [4] }) (by simp)
  induction fu with
  | zero => intros; exact absurd ‹fixN _ 0 _ = some _› (by simp [fixN])
  | succ fu ih =>
    intro d mem hT n_ most y hp
    have hT2 : memKill (fun k => decide (d < k.1)) mem = mem := hT
    refine start_in (Try.f136.body.getD .skip) [.tmp 4] G Try.func136 (by kernel_rfl) (by simp [Try.ntmps136]) rfl ?_
    replace hp : B_spec_l9Lists (fun n_ most => fixN R_spec_l9Lists fu (n_, most, ())) n_ most = some y := hp
    unfold B_spec_l9Lists at hp
    simp [Try.f136, gP, gt, gr, gg, i_136]
    rcases cond_cases hp with ⟨h_1, hp⟩ | ⟨h_1, hp⟩
    · try simp at h_1
      cases hp
      simp [Goal, FnEndI, memKill_hi, gP, gt, gr, gg, i_136, h_1, hT2]
    · try simp at h_1
      obtain ⟨y_2, h_3, hp⟩ := bind_some hp
      try simp [gP, gt, gr, gg, i_136, h_1]
      refine goal_call [av .shr (subI n_ 1), av .shr most] (Res.res y_2) (by simp [gP, gt, gr, gg, i_136, h_1]) (ih (by repeat (first | exact tight_mem0 _ | exact hT.up | exact hT | (simp only [true_and]; done) | refine Tight.upd ?_ (by simp) (by simp))) h_3) ?_
      try simp [gP, gt, gr, gg, i_136, h_1]
      obtain ⟨r_44, h_45, hp⟩ := bind_some hp
      obtain ⟨I_6, I_6_⟩ : ∃ I : (List (List Int)) × Int → St → Prop, I = (fun (s_4 : (List (List Int)) × Int) (σ : St) => σ.env 1 = .one (.s (.int .i64 most)) ∧ σ.env 5 = .one (.l .own s_4.1.length (encL s_4.1)) ∧ σ.env 6 = .one (.l .own y_2.length (encL y_2)) ∧ σ.env 7 = .one (.s (.int .i64 s_4.2)) ∧ σ.mem = mem) := ⟨_, rfl⟩
      obtain ⟨X_7, X_7_⟩ : ∃ X : (List (List Int)) → Out → Prop, X = (fun (r_44 : (List (List Int))) (out : Out) => ∃ σ : St, out = .exit 0 σ ∧ σ.env 5 = .one (.l .own r_44.length (encL r_44)) ∧ σ.mem = mem) := ⟨_, rfl⟩
      refine loopP ({ hd := [1, 5, 6, 7], bx := [], ex := [5], rt := [4] }) I_6 X_7 h_45 (by exact k_6) ?_ ?_ ?_
      · rw [I_6_]
        refine ⟨?_, ?_, ?_, ?_, ?_⟩ <;> simp [restrict_env, restrict_mem, gP, gt, gr, gg, i_136, h_1]
      · intro s_4 σ_8 a_5 hI hp
        rw [I_6_] at hI
        obtain ⟨q_9, q_10, q_11, q_12, q_13⟩ := hI
        try simp [gP, gt, gr, gg, i_136, h_1, q_9, q_10, q_11, q_12, q_13]
        rcases cond_cases hp with ⟨h_14, hp⟩ | ⟨h_14, hp⟩
        · try simp at h_14
          try simp [gP, gt, gr, gg, i_136, h_1, q_9, q_10, q_11, q_12, q_13, h_14]
          obtain ⟨r_36, h_37, hp⟩ := bind_some hp
          obtain ⟨I_17, I_17_⟩ : ∃ I : (List (List Int)) × Int → St → Prop, I = (fun (s_15 : (List (List Int)) × Int) (σ : St) => σ.env 1 = .one (.s (.int .i64 most)) ∧ σ.env 5 = .one (.l .own s_15.1.length (encL s_15.1)) ∧ σ.env 6 = .one (.l .own y_2.length (encL y_2)) ∧ σ.env 7 = .one (.s (.int .i64 s_4.2)) ∧ σ.env 8 = .one (.s (.int .i64 s_15.2)) ∧ σ.mem = mem) := ⟨_, rfl⟩
          obtain ⟨X_18, X_18_⟩ : ∃ X : (List (List Int)) → Out → Prop, X = (fun (r_36 : (List (List Int))) (out : Out) => ∃ σ : St, out = .exit 2 σ ∧ σ.env 1 = .one (.s (.int .i64 most)) ∧ σ.env 5 = .one (.l .own r_36.length (encL r_36)) ∧ σ.env 6 = .one (.l .own y_2.length (encL y_2)) ∧ σ.env 7 = .one (.s (.int .i64 s_4.2)) ∧ σ.mem = mem) := ⟨_, rfl⟩
          refine loopP ({ hd := [1, 5, 6, 7, 8], bx := [], ex := [1, 5, 6, 7], rt := [4] }) I_17 X_18 h_37 (by exact k_9) ?_ ?_ ?_
          · rw [I_17_]
            refine ⟨?_, ?_, ?_, ?_, ?_, ?_⟩ <;> simp [restrict_env, restrict_mem, gP, gt, gr, gg, i_136, h_1, q_9, q_10, q_11, q_12, q_13, h_14]
          · intro s_15 σ_19 a_16 hI hp
            rw [I_17_] at hI
            obtain ⟨q_20, q_21, q_22, q_23, q_24, q_25⟩ := hI
            try simp [gP, gt, gr, gg, i_136, h_1, h_14, q_20, q_21, q_22, q_23, q_24, q_25]
            rcases cond_cases hp with ⟨h_26, hp⟩ | ⟨h_26, hp⟩
            · try simp at h_26
              obtain ⟨e_27, h_28, hp⟩ := bind_some hp
              have b_29 := at_lo h_28
              have b_30 := at_hi h_28
              try simp at b_29
              try simp at b_30
              have c_31 := seg_at' h_28 0 1 (by decide) (ds := [.sl e_27.length (encL e_27)]) rfl
              try simp at c_31
              obtain ⟨_, h_32, hp⟩ := bind_some hp
              have b_33 := room_ok h_32
              try simp at b_33
              obtain ⟨_, h_34, hp⟩ := bind_some hp
              have b_35 := room_ok h_34
              try simp at b_35
              cases hp
              try simp [gP, gt, gr, gg, i_136, h_1, h_14, q_20, q_21, q_22, q_23, q_24, q_25, h_26, b_29, b_30, c_31, b_33, b_35]
              refine goal_next ?_
              rw [I_17_]
              refine ⟨?_, ?_, ?_, ?_, ?_, ?_⟩ <;> simp [restrict_env, restrict_mem, gP, gt, gr, gg, i_136, h_1, h_14, q_20, q_21, q_22, q_23, q_24, q_25, h_26, b_29, b_30, c_31, b_33, b_35]
            · try simp at h_26
              cases hp
              try simp [gP, gt, gr, gg, i_136, h_1, h_14, q_20, q_21, q_22, q_23, q_24, q_25, h_26]
              refine goal_outX ?_
              rw [X_18_]
              refine ⟨_, rfl, ?_, ?_, ?_, ?_, ?_⟩ <;> simp [restrict_env, restrict_mem, gP, gt, gr, gg, i_136, h_1, h_14, q_20, q_21, q_22, q_23, q_24, q_25, h_26]
          · intro out hX
            rw [X_18_] at hX
            obtain ⟨σ_38, rfl, q_39, q_40, q_41, q_42, q_43⟩ := hX
            cases hp
            try simp [gP, gt, gr, gg, i_136, h_1, h_14, q_39, q_40, q_41, q_42, q_43]
            refine goal_next ?_
            rw [I_6_]
            refine ⟨?_, ?_, ?_, ?_, ?_⟩ <;> simp [restrict_env, restrict_mem, gP, gt, gr, gg, i_136, h_1, h_14, q_39, q_40, q_41, q_42, q_43]
        · try simp at h_14
          cases hp
          try simp [gP, gt, gr, gg, i_136, h_1, q_9, q_10, q_11, q_12, q_13, h_14]
          refine goal_outX ?_
          rw [X_7_]
          refine ⟨_, rfl, ?_, ?_⟩ <;> simp [restrict_env, restrict_mem, gP, gt, gr, gg, i_136, h_1, q_9, q_10, q_11, q_12, q_13, h_14]
      · intro out hX
        rw [X_7_] at hX
        obtain ⟨σ_46, rfl, q_47, q_48⟩ := hX
        cases hp
        simp [Goal, FnEndI, memKill_hi, gP, gt, gr, gg, i_136, h_1, q_47, q_48, hT2]

noncomputable def C136 : List AV → Option AV := specP (X := Int × Int × Unit) fun x => spec_l9Lists x.1 x.2.1
theorem C136_eq {n_ most} {y} (h : spec_l9Lists n_ most = some y) : C136 [av .shr n_, av .shr most] = some (Res.res y) := specP_eq (X := Int × Int × Unit) (F := fun x => spec_l9Lists x.1 x.2.1) (x := (n_, most, ())) h
noncomputable def g136 : Cfg := { P := Try.prog, take := [(136, 29), (136, 39)], keep := [((136, 6), { hd := [1, 5, 6, 7], bx := [], ex := [5], rt := [4] }), ((136, 9), { hd := [1, 5, 6, 7, 8], bx := [], ex := [1, 5, 6, 7], rt := [4] })], gho := [], ctx := [] }
@[simp] theorem g136_P : g136.P = Try.prog := rfl
@[simp] theorem g136_t : g136.take = [(136, 29), (136, 39)] := rfl
@[simp] theorem g136_g : g136.gho = [] := rfl
@[simp] theorem g136_r : g136.ro = [] := rfl
@[simp] theorem g136_w : g136.away = [] := by rw [g136]
theorem w136 {n_ most} {y} (hp : spec_l9Lists n_ most = some y) : ∃ m, callo g136 0 136 [av .shr n_, av .shr most] mem0 = some (Res.res y, m) := by
  have G_136 : G136 g136 := ⟨rfl, by kernel_rfl, rfl, fun t => by simp, noAway (fun t => by simp) (by simp), fun i => by simp [lookK], by simp [g136, lookK], by simp⟩
  exact ⟨_, wI136 G_136 _ (tight_mem0 0)  (fixO_some hp).choose_spec⟩
theorem pc136 : PC Try.prog 136 C136 := pc_of (g := g136) (fun f F h => by cases h) ⟨Try.f136, Try.func136, by kernel_rfl, by kernel_rfl⟩ fun x y h => w136 h

noncomputable def C162 : List AV → Option AV := specP (X := THeap × Unit) fun x => spec_l7Cells x.1
theorem C162_eq {h_} {y} (h : spec_l7Cells h_ = some y) : C162 [av .shr h_] = some (Res.res y) := specP_eq (X := THeap × Unit) (F := fun x => spec_l7Cells x.1) (x := (h_, ())) h
noncomputable def g162 : Cfg := { P := Try.prog, take := [], keep := [((162, 2), { hd := [1, 3], bx := [], ex := [1], rt := [2] }), ((162, 7), { hd := [1, 4], bx := [], ex := [], rt := [2] })], gho := [], ctx := [(111, C111)] }
@[simp] theorem g162_P : g162.P = Try.prog := rfl
@[simp] theorem g162_t : g162.take = [] := rfl
@[simp] theorem g162_g : g162.gho = [] := rfl
@[simp] theorem g162_r : g162.ro = [] := rfl
@[simp] theorem g162_w : g162.away = [] := by rw [g162]
@[simp] theorem g162_111 : lookN 111 g162.ctx = some C111 := rfl
set_option maxHeartbeats 4000000 in
set_option maxRecDepth 100000 in
theorem w162 {h_} {y} (hp : spec_l7Cells h_ = some y) : ∃ m, callo g162 0 162 [av .shr h_] mem0 = some (Res.res y, m) := by
  refine start_fn (Try.f162.body.getD .skip) [.tmp 2] rfl rfl Try.func162 (by kernel_rfl) (by kernel_rfl) (by simp [Try.ntmps162]) rfl ?_
  unfold spec_l7Cells at hp
  simp [Try.f162]
  obtain ⟨r_20, h_21, hp⟩ := bind_some hp
  obtain ⟨I_3, I_3_⟩ : ∃ I : Int → St → Prop, I = (fun (s_1 : Int) (σ : St) => σ.env 1 = .one (.ptr (1, 1) 0) ∧ σ.env 3 = .one (.s (.int .i64 s_1)) ∧ σ.mem (1, 1) = some [(.l .shr h_.vars.length (encL h_.vars)), (.l .shr h_.next.length (encL h_.next))] ∧ NoBox [(1, 1)] σ.mem) := ⟨_, rfl⟩
  obtain ⟨X_4, X_4_⟩ : ∃ X : ((Unit) ⊕ (Unit)) → Out → Prop, X = (fun (r_20 : (Unit) ⊕ (Unit)) (out : Out) => Sum.elim (fun r_20 => ∃ σ : St, out = .ret σ ∧ σ.env 2 = .one (.s (.bool false)) ∧ σ.mem (1, 1) = some [(.l .shr h_.vars.length (encL h_.vars)), (.l .shr h_.next.length (encL h_.next))] ∧ NoBox [(1, 1)] σ.mem) (fun r_20 => ∃ σ : St, out = .exit 0 σ ∧ σ.env 1 = .one (.ptr (1, 1) 0) ∧ σ.mem (1, 1) = some [(.l .shr h_.vars.length (encL h_.vars)), (.l .shr h_.next.length (encL h_.next))] ∧ NoBox [(1, 1)] σ.mem) r_20) := ⟨_, rfl⟩
  refine loopP ({ hd := [1, 3], bx := [], ex := [1], rt := [2] }) I_3 X_4 h_21 (by exact rfl) ?_ ?_ ?_
  · rw [I_3_]
    refine ⟨?_, ?_, ?_, NoBox.restrict (by intro k hk hb; simp at hk hb; simp [hk, hb])⟩ <;> simp [restrict_env, restrict_mem]
  · intro s_1 σ_5 a_2 hI hp
    rw [I_3_] at hI
    obtain ⟨q_6, q_7, q_8, hn_9⟩ := hI
    try simp [q_6, q_7, q_8]
    rcases cond_cases hp with ⟨h_10, hp⟩ | ⟨h_10, hp⟩
    · try simp at h_10
      obtain ⟨e_11, h_12, hp⟩ := bind_some hp
      have b_13 := at_lo h_12
      have b_14 := at_hi h_12
      try simp at b_13
      try simp at b_14
      have c_15 := seg_at' h_12 0 1 (by decide) (ds := [.sc (.int .i64 e_11)]) rfl
      try simp at c_15
      obtain ⟨y_16, h_17, hp⟩ := bind_some hp
      have c_18 := C111_eq h_17
      simp at c_18
      try simp [q_6, q_7, q_8, h_10, b_13, b_14, c_15, c_18]
      rcases cond_cases hp with ⟨h_19, hp⟩ | ⟨h_19, hp⟩
      · try simp at h_19
        cases hp
        try simp [q_6, q_7, q_8, h_10, h_19]
        refine goal_next ?_
        rw [I_3_]
        refine ⟨?_, ?_, ?_, NoBox.restrict (by intro k hk hb; simp at hk hb; simp [hk, hb, q_6, q_7, q_8, h_10, h_19, hn_9 k (by simp [hk, hb])])⟩ <;> simp [restrict_env, restrict_mem, q_6, q_7, q_8, h_10, h_19]
      · try simp at h_19
        cases hp
        try simp [q_6, q_7, q_8, h_10, h_19]
        refine goal_outR ?_
        rw [X_4_]
        refine ⟨_, rfl, ?_, ?_, NoBox.restrict (by intro k hk hb; simp at hk hb; simp [hk, hb, q_6, q_7, q_8, h_10, h_19, hn_9 k (by simp [hk, hb])])⟩ <;> simp [restrict_env, restrict_mem, q_6, q_7, q_8, h_10, h_19]
    · try simp at h_10
      cases hp
      try simp [q_6, q_7, q_8, h_10]
      refine goal_outX ?_
      rw [X_4_]
      refine ⟨_, rfl, ?_, ?_, NoBox.restrict (by intro k hk hb; simp at hk hb; simp [hk, hb, q_6, q_7, q_8, h_10, hn_9 k (by simp [hk, hb])])⟩ <;> simp [restrict_env, restrict_mem, q_6, q_7, q_8, h_10]
  · intro out hX
    rw [X_4_] at hX
    rcases r_20 with r_20 | r_20
    · simp only [Sum.elim_inl, Sum.elim_inr] at hX hp
      obtain ⟨σ_22, rfl, q_23, q_24, hn_25⟩ := hX
      cases hp
      simp [Goal, FnEnd, q_23, q_24]
    · simp only [Sum.elim_inl, Sum.elim_inr] at hX hp
      obtain ⟨σ_26, rfl, q_27, q_28, hn_29⟩ := hX
      try simp [q_27, q_28]
      obtain ⟨r_49, h_50, hp⟩ := bind_some hp
      obtain ⟨I_32, I_32_⟩ : ∃ I : Int → St → Prop, I = (fun (s_30 : Int) (σ : St) => σ.env 1 = .one (.ptr (1, 1) 0) ∧ σ.env 4 = .one (.s (.int .i64 s_30)) ∧ σ.mem (1, 1) = some [(.l .shr h_.vars.length (encL h_.vars)), (.l .shr h_.next.length (encL h_.next))] ∧ NoBox [(1, 1)] σ.mem) := ⟨_, rfl⟩
      obtain ⟨X_33, X_33_⟩ : ∃ X : ((Bool) ⊕ (Unit)) → Out → Prop, X = (fun (r_49 : (Bool) ⊕ (Unit)) (out : Out) => Sum.elim (fun r_49 => ∃ σ : St, out = .ret σ ∧ σ.env 2 = .one (.s (.bool r_49)) ∧ σ.mem (1, 1) = some [(.l .shr h_.vars.length (encL h_.vars)), (.l .shr h_.next.length (encL h_.next))] ∧ NoBox [(1, 1)] σ.mem) (fun r_49 => ∃ σ : St, out = .exit 2 σ ∧ σ.mem (1, 1) = some [(.l .shr h_.vars.length (encL h_.vars)), (.l .shr h_.next.length (encL h_.next))] ∧ NoBox [(1, 1)] σ.mem) r_49) := ⟨_, rfl⟩
      refine loopP ({ hd := [1, 4], bx := [], ex := [], rt := [2] }) I_32 X_33 h_50 (by exact rfl) ?_ ?_ ?_
      · rw [I_32_]
        refine ⟨?_, ?_, ?_, NoBox.restrict (by intro k hk hb; simp at hk hb; simp [hk, hb, q_27, q_28, hn_29 k (by simp [hk, hb])])⟩ <;> simp [restrict_env, restrict_mem, q_27, q_28]
      · intro s_30 σ_34 a_31 hI hp
        rw [I_32_] at hI
        obtain ⟨q_35, q_36, q_37, hn_38⟩ := hI
        try simp [q_35, q_36, q_37]
        rcases cond_cases hp with ⟨h_39, hp⟩ | ⟨h_39, hp⟩
        · try simp at h_39
          obtain ⟨e_40, h_41, hp⟩ := bind_some hp
          have b_42 := at_lo h_41
          have b_43 := at_hi h_41
          try simp at b_42
          try simp at b_43
          have c_44 := seg_at' h_41 0 1 (by decide) (ds := [.sc (.int .i64 e_40)]) rfl
          try simp at c_44
          obtain ⟨y_45, h_46, hp⟩ := bind_some hp
          have c_47 := C111_eq h_46
          simp at c_47
          try simp [q_35, q_36, q_37, h_39, b_42, b_43, c_44, c_47]
          rcases cond_cases hp with ⟨h_48, hp⟩ | ⟨h_48, hp⟩
          · try simp at h_48
            cases hp
            try simp [q_35, q_36, q_37, h_39, h_48]
            refine goal_next ?_
            rw [I_32_]
            refine ⟨?_, ?_, ?_, NoBox.restrict (by intro k hk hb; simp at hk hb; simp [hk, hb, q_35, q_36, q_37, h_39, h_48, hn_38 k (by simp [hk, hb])])⟩ <;> simp [restrict_env, restrict_mem, q_35, q_36, q_37, h_39, h_48]
          · try simp at h_48
            cases hp
            try simp [q_35, q_36, q_37, h_39, h_48]
            refine goal_outR ?_
            rw [X_33_]
            refine ⟨_, rfl, ?_, ?_, NoBox.restrict (by intro k hk hb; simp at hk hb; simp [hk, hb, q_35, q_36, q_37, h_39, h_48, hn_38 k (by simp [hk, hb])])⟩ <;> simp [restrict_env, restrict_mem, q_35, q_36, q_37, h_39, h_48]
        · try simp at h_39
          cases hp
          try simp [q_35, q_36, q_37, h_39]
          refine goal_outX ?_
          rw [X_33_]
          exact ⟨_, rfl, by simp [restrict_mem, q_35, q_36, q_37, h_39], NoBox.restrict (by intro k hk hb; simp at hk hb; simp [hk, hb, q_35, q_36, q_37, h_39, hn_38 k (by simp [hk, hb])])⟩
      · intro out hX
        rw [X_33_] at hX
        rcases r_49 with r_49 | r_49
        · simp only [Sum.elim_inl, Sum.elim_inr] at hX hp
          obtain ⟨σ_51, rfl, q_52, q_53, hn_54⟩ := hX
          cases hp
          simp [Goal, FnEnd, q_52, q_53]
        · simp only [Sum.elim_inl, Sum.elim_inr] at hX hp
          obtain ⟨σ_55, rfl, q_56, hn_57⟩ := hX
          cases hp
          simp [Goal, FnEnd, q_56]
theorem pc162 : PC Try.prog 162 C162 := pc_of (g := g162) (ctxOK_of [(111, C111)] rfl ⟨pc111, trivial⟩) ⟨Try.f162, Try.func162, by kernel_rfl, by kernel_rfl⟩ fun x y h => w162 h

noncomputable def C121 : List AV → Option AV := specP (X := (List Int) × Int × Unit) fun x => spec_Positions x.1 x.2.1
theorem C121_eq {list n_} {y} (h : spec_Positions list n_ = some y) : C121 [av .shr list, av .shr n_] = some (Res.res y) := specP_eq (X := (List Int) × Int × Unit) (F := fun x => spec_Positions x.1 x.2.1) (x := (list, n_, ())) h
noncomputable def g121 : Cfg := { P := Try.prog, take := [(121, 20), (121, 24)], keep := [((121, 3), { hd := [0, 1, 5, 6], bx := [], ex := [5], rt := [4] })], gho := [], ctx := [] }
@[simp] theorem g121_P : g121.P = Try.prog := rfl
@[simp] theorem g121_t : g121.take = [(121, 20), (121, 24)] := rfl
@[simp] theorem g121_g : g121.gho = [] := rfl
@[simp] theorem g121_r : g121.ro = [] := rfl
@[simp] theorem g121_w : g121.away = [] := by rw [g121]
set_option maxHeartbeats 4000000 in
set_option maxRecDepth 100000 in
theorem w121 {list n_} {y} (hp : spec_Positions list n_ = some y) : ∃ m, callo g121 0 121 [av .shr list, av .shr n_] mem0 = some (Res.res y, m) := by
  refine start_fn (Try.f121.body.getD .skip) [.tmp 4] rfl rfl Try.func121 (by kernel_rfl) (by kernel_rfl) (by simp [Try.ntmps121]) rfl ?_
  unfold spec_Positions at hp
  simp [Try.f121]
  obtain ⟨r_20, h_21, hp⟩ := bind_some hp
  obtain ⟨I_3, I_3_⟩ : ∃ I : (List Int) × Int → St → Prop, I = (fun (s_1 : (List Int) × Int) (σ : St) => σ.env 0 = .one (.l .shr list.length (encL list)) ∧ σ.env 1 = .one (.s (.int .i64 n_)) ∧ σ.env 5 = .one (.l .own s_1.1.length (encL s_1.1)) ∧ σ.env 6 = .one (.s (.int .i64 s_1.2)) ∧ σ.mem = mem0) := ⟨_, rfl⟩
  obtain ⟨X_4, X_4_⟩ : ∃ X : (List Int) → Out → Prop, X = (fun (r_20 : (List Int)) (out : Out) => ∃ σ : St, out = .exit 0 σ ∧ σ.env 5 = .one (.l .own r_20.length (encL r_20)) ∧ σ.mem = mem0) := ⟨_, rfl⟩
  refine loopP ({ hd := [0, 1, 5, 6], bx := [], ex := [5], rt := [4] }) I_3 X_4 h_21 (by exact rfl) ?_ ?_ ?_
  · rw [I_3_]
    refine ⟨?_, ?_, ?_, ?_, ?_⟩ <;> simp [restrict_env, restrict_mem]
  · intro s_1 σ_5 a_2 hI hp
    rw [I_3_] at hI
    obtain ⟨q_6, q_7, q_8, q_9, q_10⟩ := hI
    try simp [q_6, q_7, q_8, q_9, q_10]
    rcases cond_cases hp with ⟨h_11, hp⟩ | ⟨h_11, hp⟩
    · try simp at h_11
      obtain ⟨e_12, h_13, hp⟩ := bind_some hp
      have b_14 := at_lo h_13
      have b_15 := at_hi h_13
      try simp at b_14
      try simp at b_15
      have c_16 := seg_at' h_13 0 1 (by decide) (ds := [.sc (.int .i64 e_12)]) rfl
      try simp at c_16
      try simp [q_6, q_7, q_8, q_9, q_10, h_11, b_14, b_15, c_16]
      rcases cond_cases hp with ⟨h_17, hp⟩ | ⟨h_17, hp⟩
      · try simp at h_17
        obtain ⟨_, h_18, hp⟩ := bind_some hp
        have b_19 := room_ok h_18
        try simp at b_19
        cases hp
        try simp [q_6, q_7, q_8, q_9, q_10, h_11, h_17, b_19]
        refine goal_next ?_
        rw [I_3_]
        refine ⟨?_, ?_, ?_, ?_, ?_⟩ <;> simp [restrict_env, restrict_mem, q_6, q_7, q_8, q_9, q_10, h_11, h_17, b_19]
      · try simp at h_17
        cases hp
        try simp [q_6, q_7, q_8, q_9, q_10, h_11, h_17]
        refine goal_next ?_
        rw [I_3_]
        refine ⟨?_, ?_, ?_, ?_, ?_⟩ <;> simp [restrict_env, restrict_mem, q_6, q_7, q_8, q_9, q_10, h_11, h_17]
    · try simp at h_11
      cases hp
      try simp [q_6, q_7, q_8, q_9, q_10, h_11]
      refine goal_outX ?_
      rw [X_4_]
      refine ⟨_, rfl, ?_, ?_⟩ <;> simp [restrict_env, restrict_mem, q_6, q_7, q_8, q_9, q_10, h_11]
  · intro out hX
    rw [X_4_] at hX
    obtain ⟨σ_22, rfl, q_23, q_24⟩ := hX
    cases hp
    simp [Goal, FnEnd, q_23, q_24]
theorem pc121 : PC Try.prog 121 C121 := pc_of (g := g121) (fun f F h => by cases h) ⟨Try.f121, Try.func121, by kernel_rfl, by kernel_rfl⟩ fun x y h => w121 h

noncomputable def C164 : List AV → Option AV := specP (X := (List Int) × Int × Unit) fun x => spec_l7Has x.1 x.2.1
theorem C164_eq {list n_} {y} (h : spec_l7Has list n_ = some y) : C164 [av .shr list, av .shr n_] = some (Res.res y) := specP_eq (X := (List Int) × Int × Unit) (F := fun x => spec_l7Has x.1 x.2.1) (x := (list, n_, ())) h
noncomputable def g164 : Cfg := { P := Try.prog, take := [], keep := [], gho := [], ctx := [(121, C121)] }
@[simp] theorem g164_P : g164.P = Try.prog := rfl
@[simp] theorem g164_t : g164.take = [] := rfl
@[simp] theorem g164_g : g164.gho = [] := rfl
@[simp] theorem g164_r : g164.ro = [] := rfl
@[simp] theorem g164_w : g164.away = [] := by rw [g164]
@[simp] theorem g164_121 : lookN 121 g164.ctx = some C121 := rfl
set_option maxHeartbeats 4000000 in
set_option maxRecDepth 100000 in
theorem w164 {list n_} {y} (hp : spec_l7Has list n_ = some y) : ∃ m, callo g164 0 164 [av .shr list, av .shr n_] mem0 = some (Res.res y, m) := by
  refine start_fn (Try.f164.body.getD .skip) [.tmp 4] rfl rfl Try.func164 (by kernel_rfl) (by kernel_rfl) (by simp [Try.ntmps164]) rfl ?_
  unfold spec_l7Has at hp
  obtain ⟨y_1, h_2, hp⟩ := bind_some hp
  have c_3 := C121_eq h_2
  simp at c_3
  cases hp
  simp [Try.f164, Goal, FnEnd, c_3]
theorem pc164 : PC Try.prog 164 C164 := pc_of (g := g164) (ctxOK_of [(121, C121)] rfl ⟨pc121, trivial⟩) ⟨Try.f164, Try.func164, by kernel_rfl, by kernel_rfl⟩ fun x y h => w164 h

noncomputable def C165 : List AV → Option AV := specP (X := THeap × Int × Unit) fun x => spec_Followed x.1 x.2.1
theorem C165_eq {h_ cell} {y} (h : spec_Followed h_ cell = some y) : C165 [av .shr h_, av .shr cell] = some (Res.res y) := specP_eq (X := THeap × Int × Unit) (F := fun x => spec_Followed x.1 x.2.1) (x := (h_, cell, ())) h
noncomputable def g165 : Cfg := { P := Try.prog, take := [(165, 23), (165, 32)], keep := [((165, 2), { hd := [1, 2, 5], bx := [], ex := [5], rt := [4] })], gho := [], ctx := [(111, C111), (164, C164)] }
@[simp] theorem g165_P : g165.P = Try.prog := rfl
@[simp] theorem g165_t : g165.take = [(165, 23), (165, 32)] := rfl
@[simp] theorem g165_g : g165.gho = [] := rfl
@[simp] theorem g165_r : g165.ro = [] := rfl
@[simp] theorem g165_w : g165.away = [] := by rw [g165]
@[simp] theorem g165_111 : lookN 111 g165.ctx = some C111 := rfl
@[simp] theorem g165_164 : lookN 164 g165.ctx = some C164 := rfl
set_option maxHeartbeats 4000000 in
set_option maxRecDepth 100000 in
theorem w165 {h_ cell} {y} (hp : spec_Followed h_ cell = some y) : ∃ m, callo g165 0 165 [av .shr h_, av .shr cell] mem0 = some (Res.res y, m) := by
  refine start_fn (Try.f165.body.getD .skip) [.tmp 4] rfl rfl Try.func165 (by kernel_rfl) (by kernel_rfl) (by simp [Try.ntmps165]) rfl ?_
  unfold spec_Followed at hp
  simp [Try.f165]
  obtain ⟨r_27, h_28, hp⟩ := bind_some hp
  obtain ⟨I_3, I_3_⟩ : ∃ I : Int × (List Int) → St → Prop, I = (fun (s_1 : Int × (List Int)) (σ : St) => σ.env 1 = .one (.s (.int .i64 s_1.1)) ∧ σ.env 2 = .one (.ptr (1, 2) 0) ∧ σ.env 5 = .one (.l .own s_1.2.length (encL s_1.2)) ∧ σ.mem (1, 2) = some [(.l .shr h_.vars.length (encL h_.vars)), (.l .shr h_.next.length (encL h_.next))] ∧ NoBox [(1, 2)] σ.mem) := ⟨_, rfl⟩
  obtain ⟨X_4, X_4_⟩ : ∃ X : (((List Int)) ⊕ (Unit)) → Out → Prop, X = (fun (r_27 : ((List Int)) ⊕ (Unit)) (out : Out) => Sum.elim (fun r_27 => ∃ σ : St, out = .exit 0 σ ∧ σ.env 5 = .one (.l .own r_27.length (encL r_27)) ∧ σ.mem (1, 2) = some [(.l .shr h_.vars.length (encL h_.vars)), (.l .shr h_.next.length (encL h_.next))] ∧ NoBox [(1, 2)] σ.mem) (fun r_27 => ∃ σ : St, out = .ret σ ∧ σ.env 4 = .one (.l .own 0 []) ∧ σ.mem (1, 2) = some [(.l .shr h_.vars.length (encL h_.vars)), (.l .shr h_.next.length (encL h_.next))] ∧ NoBox [(1, 2)] σ.mem) r_27) := ⟨_, rfl⟩
  refine loopP ({ hd := [1, 2, 5], bx := [], ex := [5], rt := [4] }) I_3 X_4 h_28 (by exact rfl) ?_ ?_ ?_
  · rw [I_3_]
    refine ⟨?_, ?_, ?_, ?_, NoBox.restrict (by intro k hk hb; simp at hk hb; simp [hk, hb])⟩ <;> simp [restrict_env, restrict_mem]
  · intro s_1 σ_5 a_2 hI hp
    rw [I_3_] at hI
    obtain ⟨q_6, q_7, q_8, q_9, hn_10⟩ := hI
    try simp [q_6, q_7, q_8, q_9]
    rcases cond_cases hp with ⟨h_11, hp⟩ | ⟨h_11, hp⟩
    · try simp at h_11
      obtain ⟨y_12, h_13, hp⟩ := bind_some hp
      have c_14 := C164_eq h_13
      simp at c_14
      try simp [q_6, q_7, q_8, q_9, h_11, c_14]
      rcases cond_cases hp with ⟨h_15, hp⟩ | ⟨h_15, hp⟩
      · try simp at h_15
        cases hp
        try simp [q_6, q_7, q_8, q_9, h_11, h_15]
        refine goal_outX ?_
        rw [X_4_]
        refine ⟨_, rfl, ?_, ?_, NoBox.restrict (by intro k hk hb; simp at hk hb; simp [hk, hb, q_6, q_7, q_8, q_9, h_11, h_15, hn_10 k (by simp [hk, hb])])⟩ <;> simp [restrict_env, restrict_mem, q_6, q_7, q_8, q_9, h_11, h_15]
      · try simp at h_15
        obtain ⟨y_16, h_17, hp⟩ := bind_some hp
        have c_18 := C111_eq h_17
        simp at c_18
        try simp [q_6, q_7, q_8, q_9, h_11, h_15, c_18]
        rcases cond_cases hp with ⟨h_19, hp⟩ | ⟨h_19, hp⟩
        · try simp at h_19
          obtain ⟨_, h_20, hp⟩ := bind_some hp
          have b_21 := room_ok h_20
          try simp at b_21
          obtain ⟨e_22, h_23, hp⟩ := bind_some hp
          have b_24 := at_lo h_23
          have b_25 := at_hi h_23
          try simp at b_24
          try simp at b_25
          have c_26 := seg_at' h_23 0 1 (by decide) (ds := [.sc (.int .i64 e_22)]) rfl
          try simp at c_26
          cases hp
          try simp [q_6, q_7, q_8, q_9, h_11, h_15, h_19, b_21, b_24, b_25, c_26]
          refine goal_next ?_
          rw [I_3_]
          refine ⟨?_, ?_, ?_, ?_, NoBox.restrict (by intro k hk hb; simp at hk hb; simp [hk, hb, q_6, q_7, q_8, q_9, h_11, h_15, h_19, b_21, b_24, b_25, c_26, hn_10 k (by simp [hk, hb])])⟩ <;> simp [restrict_env, restrict_mem, q_6, q_7, q_8, q_9, h_11, h_15, h_19, b_21, b_24, b_25, c_26]
        · try simp at h_19
          cases hp
          try simp [q_6, q_7, q_8, q_9, h_11, h_15, h_19]
          refine goal_outR ?_
          rw [X_4_]
          refine ⟨_, rfl, ?_, ?_, NoBox.restrict (by intro k hk hb; simp at hk hb; simp [hk, hb, q_6, q_7, q_8, q_9, h_11, h_15, h_19, hn_10 k (by simp [hk, hb])])⟩ <;> simp [restrict_env, restrict_mem, q_6, q_7, q_8, q_9, h_11, h_15, h_19]
    · try simp at h_11
      cases hp
      try simp [q_6, q_7, q_8, q_9, h_11]
      refine goal_outX ?_
      rw [X_4_]
      refine ⟨_, rfl, ?_, ?_, NoBox.restrict (by intro k hk hb; simp at hk hb; simp [hk, hb, q_6, q_7, q_8, q_9, h_11, hn_10 k (by simp [hk, hb])])⟩ <;> simp [restrict_env, restrict_mem, q_6, q_7, q_8, q_9, h_11]
  · intro out hX
    rw [X_4_] at hX
    rcases r_27 with r_27 | r_27
    · simp only [Sum.elim_inl, Sum.elim_inr] at hX hp
      obtain ⟨σ_29, rfl, q_30, q_31, hn_32⟩ := hX
      cases hp
      simp [Goal, FnEnd, q_30, q_31]
    · simp only [Sum.elim_inl, Sum.elim_inr] at hX hp
      obtain ⟨σ_33, rfl, q_34, q_35, hn_36⟩ := hX
      cases hp
      simp [Goal, FnEnd, q_34, q_35]
theorem pc165 : PC Try.prog 165 C165 := pc_of (g := g165) (ctxOK_of [(111, C111), (164, C164)] rfl ⟨pc111, pc164, trivial⟩) ⟨Try.f165, Try.func165, by kernel_rfl, by kernel_rfl⟩ fun x y h => w165 h

noncomputable def C180 : List AV → Option AV := specP (X := THeap × Unit) fun x => spec_l7Acyclic x.1
theorem C180_eq {h_} {y} (h : spec_l7Acyclic h_ = some y) : C180 [av .shr h_] = some (Res.res y) := specP_eq (X := THeap × Unit) (F := fun x => spec_l7Acyclic x.1) (x := (h_, ())) h
noncomputable def g180 : Cfg := { P := Try.prog, take := [], keep := [((180, 2), { hd := [1, 3], bx := [], ex := [], rt := [2] })], gho := [], ctx := [(165, C165)] }
@[simp] theorem g180_P : g180.P = Try.prog := rfl
@[simp] theorem g180_t : g180.take = [] := rfl
@[simp] theorem g180_g : g180.gho = [] := rfl
@[simp] theorem g180_r : g180.ro = [] := rfl
@[simp] theorem g180_w : g180.away = [] := by rw [g180]
@[simp] theorem g180_165 : lookN 165 g180.ctx = some C165 := rfl
set_option maxHeartbeats 4000000 in
set_option maxRecDepth 100000 in
theorem w180 {h_} {y} (hp : spec_l7Acyclic h_ = some y) : ∃ m, callo g180 0 180 [av .shr h_] mem0 = some (Res.res y, m) := by
  refine start_fn (Try.f180.body.getD .skip) [.tmp 2] rfl rfl Try.func180 (by kernel_rfl) (by kernel_rfl) (by simp [Try.ntmps180]) rfl ?_
  unfold spec_l7Acyclic at hp
  simp [Try.f180]
  obtain ⟨r_26, h_27, hp⟩ := bind_some hp
  obtain ⟨I_3, I_3_⟩ : ∃ I : Int → St → Prop, I = (fun (s_1 : Int) (σ : St) => σ.env 1 = .one (.ptr (1, 1) 0) ∧ σ.env 3 = .one (.s (.int .i64 s_1)) ∧ σ.mem (1, 1) = some [(.l .shr h_.vars.length (encL h_.vars)), (.l .shr h_.next.length (encL h_.next))] ∧ NoBox [(1, 1)] σ.mem) := ⟨_, rfl⟩
  obtain ⟨X_4, X_4_⟩ : ∃ X : ((Unit) ⊕ (Unit)) → Out → Prop, X = (fun (r_26 : (Unit) ⊕ (Unit)) (out : Out) => Sum.elim (fun r_26 => ∃ σ : St, out = .ret σ ∧ σ.env 2 = .one (.s (.bool false)) ∧ σ.mem (1, 1) = some [(.l .shr h_.vars.length (encL h_.vars)), (.l .shr h_.next.length (encL h_.next))] ∧ NoBox [(1, 1)] σ.mem) (fun r_26 => ∃ σ : St, out = .exit 0 σ ∧ σ.mem (1, 1) = some [(.l .shr h_.vars.length (encL h_.vars)), (.l .shr h_.next.length (encL h_.next))] ∧ NoBox [(1, 1)] σ.mem) r_26) := ⟨_, rfl⟩
  refine loopP ({ hd := [1, 3], bx := [], ex := [], rt := [2] }) I_3 X_4 h_27 (by exact rfl) ?_ ?_ ?_
  · rw [I_3_]
    refine ⟨?_, ?_, ?_, NoBox.restrict (by intro k hk hb; simp at hk hb; simp [hk, hb])⟩ <;> simp [restrict_env, restrict_mem]
  · intro s_1 σ_5 a_2 hI hp
    rw [I_3_] at hI
    obtain ⟨q_6, q_7, q_8, hn_9⟩ := hI
    try simp [q_6, q_7, q_8]
    rcases cond_cases hp with ⟨h_10, hp⟩ | ⟨h_10, hp⟩
    · try simp at h_10
      obtain ⟨y_11, h_12, hp⟩ := bind_some hp
      have c_13 := C165_eq h_12
      simp at c_13
      try simp [q_6, q_7, q_8, h_10, c_13]
      rcases cond_cases hp with ⟨h_14, hp⟩ | ⟨h_14, hp⟩
      · try simp at h_14
        cases hp
        try simp [q_6, q_7, q_8, h_10, h_14]
        refine goal_outR ?_
        rw [X_4_]
        refine ⟨_, rfl, ?_, ?_, NoBox.restrict (by intro k hk hb; simp at hk hb; simp [hk, hb, q_6, q_7, q_8, h_10, h_14, hn_9 k (by simp [hk, hb])])⟩ <;> simp [restrict_env, restrict_mem, q_6, q_7, q_8, h_10, h_14]
      · try simp at h_14
        obtain ⟨e_15, h_16, hp⟩ := bind_some hp
        have b_17 := at_lo h_16
        have b_18 := at_hi h_16
        try simp at b_17
        try simp at b_18
        have c_19 := seg_at' h_16 0 1 (by decide) (ds := [.sc (.int .i64 e_15)]) rfl
        try simp at c_19
        obtain ⟨e_20, h_21, hp⟩ := bind_some hp
        have b_22 := at_lo h_21
        have b_23 := at_hi h_21
        try simp at b_22
        try simp at b_23
        have c_24 := seg_at' h_21 0 1 (by decide) (ds := [.sc (.int .i64 e_20)]) rfl
        try simp at c_24
        try simp [q_6, q_7, q_8, h_10, h_14, b_17, b_18, c_19, b_22, b_23, c_24]
        rcases cond_cases hp with ⟨h_25, hp⟩ | ⟨h_25, hp⟩
        · try simp at h_25
          cases hp
          try simp [q_6, q_7, q_8, h_10, h_14, h_25]
          refine goal_outR ?_
          rw [X_4_]
          refine ⟨_, rfl, ?_, ?_, NoBox.restrict (by intro k hk hb; simp at hk hb; simp [hk, hb, q_6, q_7, q_8, h_10, h_14, h_25, hn_9 k (by simp [hk, hb])])⟩ <;> simp [restrict_env, restrict_mem, q_6, q_7, q_8, h_10, h_14, h_25]
        · try simp at h_25
          cases hp
          try simp [q_6, q_7, q_8, h_10, h_14, h_25]
          refine goal_next ?_
          rw [I_3_]
          refine ⟨?_, ?_, ?_, NoBox.restrict (by intro k hk hb; simp at hk hb; simp [hk, hb, q_6, q_7, q_8, h_10, h_14, h_25, hn_9 k (by simp [hk, hb])])⟩ <;> simp [restrict_env, restrict_mem, q_6, q_7, q_8, h_10, h_14, h_25]
    · try simp at h_10
      cases hp
      try simp [q_6, q_7, q_8, h_10]
      refine goal_outX ?_
      rw [X_4_]
      exact ⟨_, rfl, by simp [restrict_mem, q_6, q_7, q_8, h_10], NoBox.restrict (by intro k hk hb; simp at hk hb; simp [hk, hb, q_6, q_7, q_8, h_10, hn_9 k (by simp [hk, hb])])⟩
  · intro out hX
    rw [X_4_] at hX
    rcases r_26 with r_26 | r_26
    · simp only [Sum.elim_inl, Sum.elim_inr] at hX hp
      obtain ⟨σ_28, rfl, q_29, q_30, hn_31⟩ := hX
      cases hp
      simp [Goal, FnEnd, q_29, q_30]
    · simp only [Sum.elim_inl, Sum.elim_inr] at hX hp
      obtain ⟨σ_32, rfl, q_33, hn_34⟩ := hX
      cases hp
      simp [Goal, FnEnd, q_33]
theorem pc180 : PC Try.prog 180 C180 := pc_of (g := g180) (ctxOK_of [(165, C165)] rfl ⟨pc165, trivial⟩) ⟨Try.f180, Try.func180, by kernel_rfl, by kernel_rfl⟩ fun x y h => w180 h

noncomputable def C181 : List AV → Option AV := specP (X := THeap × Unit) fun x => spec_l7Order x.1
theorem C181_eq {h_} {y} (h : spec_l7Order h_ = some y) : C181 [av .shr h_] = some (Res.res y) := specP_eq (X := THeap × Unit) (F := fun x => spec_l7Order x.1) (x := (h_, ())) h
noncomputable def g181 : Cfg := { P := Try.prog, take := [(181, 35), (181, 42)], keep := [((181, 3), { hd := [1, 3, 4], bx := [], ex := [3], rt := [2] }), ((181, 7), { hd := [1, 3, 4, 5, 6], bx := [], ex := [1, 3, 4], rt := [2] })], gho := [], ctx := [(164, C164), (165, C165)] }
@[simp] theorem g181_P : g181.P = Try.prog := rfl
@[simp] theorem g181_t : g181.take = [(181, 35), (181, 42)] := rfl
@[simp] theorem g181_g : g181.gho = [] := rfl
@[simp] theorem g181_r : g181.ro = [] := rfl
@[simp] theorem g181_w : g181.away = [] := by rw [g181]
@[simp] theorem g181_164 : lookN 164 g181.ctx = some C164 := rfl
@[simp] theorem g181_165 : lookN 165 g181.ctx = some C165 := rfl
set_option maxHeartbeats 4000000 in
set_option maxRecDepth 100000 in
theorem w181 {h_} {y} (hp : spec_l7Order h_ = some y) : ∃ m, callo g181 0 181 [av .shr h_] mem0 = some (Res.res y, m) := by
  refine start_fn (Try.f181.body.getD .skip) [.tmp 2] rfl rfl Try.func181 (by kernel_rfl) (by kernel_rfl) (by simp [Try.ntmps181]) rfl ?_
  unfold spec_l7Order at hp
  simp [Try.f181]
  obtain ⟨r_57, h_58, hp⟩ := bind_some hp
  obtain ⟨I_3, I_3_⟩ : ∃ I : (List Int) × Int → St → Prop, I = (fun (s_1 : (List Int) × Int) (σ : St) => σ.env 1 = .one (.ptr (1, 1) 0) ∧ σ.env 3 = .one (.l .own s_1.1.length (encL s_1.1)) ∧ σ.env 4 = .one (.s (.int .i64 s_1.2)) ∧ σ.mem (1, 1) = some [(.l .shr h_.vars.length (encL h_.vars)), (.l .shr h_.next.length (encL h_.next))] ∧ NoBox [(1, 1)] σ.mem) := ⟨_, rfl⟩
  obtain ⟨X_4, X_4_⟩ : ∃ X : (List Int) → Out → Prop, X = (fun (r_57 : (List Int)) (out : Out) => ∃ σ : St, out = .exit 0 σ ∧ σ.env 3 = .one (.l .own r_57.length (encL r_57)) ∧ σ.mem (1, 1) = some [(.l .shr h_.vars.length (encL h_.vars)), (.l .shr h_.next.length (encL h_.next))] ∧ NoBox [(1, 1)] σ.mem) := ⟨_, rfl⟩
  refine loopP ({ hd := [1, 3, 4], bx := [], ex := [3], rt := [2] }) I_3 X_4 h_58 (by exact rfl) ?_ ?_ ?_
  · rw [I_3_]
    refine ⟨?_, ?_, ?_, ?_, NoBox.restrict (by intro k hk hb; simp at hk hb; simp [hk, hb])⟩ <;> simp [restrict_env, restrict_mem]
  · intro s_1 σ_5 a_2 hI hp
    rw [I_3_] at hI
    obtain ⟨q_6, q_7, q_8, q_9, hn_10⟩ := hI
    try simp [q_6, q_7, q_8, q_9]
    rcases cond_cases hp with ⟨h_11, hp⟩ | ⟨h_11, hp⟩
    · try simp at h_11
      obtain ⟨e_12, h_13, hp⟩ := bind_some hp
      have b_14 := at_lo h_13
      have b_15 := at_hi h_13
      try simp at b_14
      try simp at b_15
      have c_16 := seg_at' h_13 0 1 (by decide) (ds := [.sc (.int .i64 e_12)]) rfl
      try simp at c_16
      obtain ⟨y_17, h_18, hp⟩ := bind_some hp
      have c_19 := C165_eq h_18
      simp at c_19
      try simp [q_6, q_7, q_8, q_9, h_11, b_14, b_15, c_16, c_19]
      obtain ⟨r_49, h_50, hp⟩ := bind_some hp
      obtain ⟨I_22, I_22_⟩ : ∃ I : Int × (List Int) → St → Prop, I = (fun (s_20 : Int × (List Int)) (σ : St) => σ.env 1 = .one (.ptr (1, 1) 0) ∧ σ.env 3 = .one (.l .own s_20.2.length (encL s_20.2)) ∧ σ.env 4 = .one (.s (.int .i64 s_1.2)) ∧ σ.env 5 = .one (.l .own y_17.length (encL y_17)) ∧ σ.env 6 = .one (.s (.int .i64 s_20.1)) ∧ σ.mem (1, 1) = some [(.l .shr h_.vars.length (encL h_.vars)), (.l .shr h_.next.length (encL h_.next))] ∧ NoBox [(1, 1)] σ.mem) := ⟨_, rfl⟩
      obtain ⟨X_23, X_23_⟩ : ∃ X : (List Int) → Out → Prop, X = (fun (r_49 : (List Int)) (out : Out) => ∃ σ : St, out = .exit 2 σ ∧ σ.env 1 = .one (.ptr (1, 1) 0) ∧ σ.env 3 = .one (.l .own r_49.length (encL r_49)) ∧ σ.env 4 = .one (.s (.int .i64 s_1.2)) ∧ σ.mem (1, 1) = some [(.l .shr h_.vars.length (encL h_.vars)), (.l .shr h_.next.length (encL h_.next))] ∧ NoBox [(1, 1)] σ.mem) := ⟨_, rfl⟩
      refine loopP ({ hd := [1, 3, 4, 5, 6], bx := [], ex := [1, 3, 4], rt := [2] }) I_22 X_23 h_50 (by exact rfl) ?_ ?_ ?_
      · rw [I_22_]
        refine ⟨?_, ?_, ?_, ?_, ?_, ?_, NoBox.restrict (by intro k hk hb; simp at hk hb; simp [hk, hb, q_6, q_7, q_8, q_9, h_11, hn_10 k (by simp [hk, hb])])⟩ <;> simp [restrict_env, restrict_mem, q_6, q_7, q_8, q_9, h_11]
      · intro s_20 σ_24 a_21 hI hp
        rw [I_22_] at hI
        obtain ⟨q_25, q_26, q_27, q_28, q_29, q_30, hn_31⟩ := hI
        try simp [h_11, q_25, q_26, q_27, q_28, q_29, q_30]
        rcases cond_cases hp with ⟨h_32, hp⟩ | ⟨h_32, hp⟩
        · try simp at h_32
          obtain ⟨e_33, h_34, hp⟩ := bind_some hp
          have b_35 := at_lo h_34
          have b_36 := at_hi h_34
          try simp at b_35
          try simp at b_36
          have c_37 := seg_at' h_34 0 1 (by decide) (ds := [.sc (.int .i64 e_33)]) rfl
          try simp at c_37
          obtain ⟨y_38, h_39, hp⟩ := bind_some hp
          have c_40 := C164_eq h_39
          simp at c_40
          try simp [h_11, q_25, q_26, q_27, q_28, q_29, q_30, h_32, b_35, b_36, c_37, c_40]
          rcases cond_cases hp with ⟨h_41, hp⟩ | ⟨h_41, hp⟩
          · try simp at h_41
            cases hp
            try simp [h_11, q_25, q_26, q_27, q_28, q_29, q_30, h_32, h_41]
            refine goal_next ?_
            rw [I_22_]
            refine ⟨?_, ?_, ?_, ?_, ?_, ?_, NoBox.restrict (by intro k hk hb; simp at hk hb; simp [hk, hb, h_11, q_25, q_26, q_27, q_28, q_29, q_30, h_32, h_41, hn_31 k (by simp [hk, hb])])⟩ <;> simp [restrict_env, restrict_mem, h_11, q_25, q_26, q_27, q_28, q_29, q_30, h_32, h_41]
          · try simp at h_41
            obtain ⟨e_42, h_43, hp⟩ := bind_some hp
            cases Option.some.inj (h_34.symm.trans h_43)
            have b_44 := at_lo h_34
            have b_45 := at_hi h_34
            try simp at b_44
            try simp at b_45
            have c_46 := seg_at' h_34 0 1 (by decide) (ds := [.sc (.int .i64 e_33)]) rfl
            try simp at c_46
            obtain ⟨_, h_47, hp⟩ := bind_some hp
            have b_48 := room_ok h_47
            try simp at b_48
            cases hp
            try simp [h_11, q_25, q_26, q_27, q_28, q_29, q_30, h_32, h_41, b_44, b_45, c_46, b_48]
            refine goal_next ?_
            rw [I_22_]
            refine ⟨?_, ?_, ?_, ?_, ?_, ?_, NoBox.restrict (by intro k hk hb; simp at hk hb; simp [hk, hb, h_11, q_25, q_26, q_27, q_28, q_29, q_30, h_32, h_41, b_44, b_45, c_46, b_48, hn_31 k (by simp [hk, hb])])⟩ <;> simp [restrict_env, restrict_mem, h_11, q_25, q_26, q_27, q_28, q_29, q_30, h_32, h_41, b_44, b_45, c_46, b_48]
        · try simp at h_32
          cases hp
          try simp [h_11, q_25, q_26, q_27, q_28, q_29, q_30, h_32]
          refine goal_outX ?_
          rw [X_23_]
          refine ⟨_, rfl, ?_, ?_, ?_, ?_, NoBox.restrict (by intro k hk hb; simp at hk hb; simp [hk, hb, h_11, q_25, q_26, q_27, q_28, q_29, q_30, h_32, hn_31 k (by simp [hk, hb])])⟩ <;> simp [restrict_env, restrict_mem, h_11, q_25, q_26, q_27, q_28, q_29, q_30, h_32]
      · intro out hX
        rw [X_23_] at hX
        obtain ⟨σ_51, rfl, q_52, q_53, q_54, q_55, hn_56⟩ := hX
        cases hp
        try simp [h_11, q_52, q_53, q_54, q_55]
        refine goal_next ?_
        rw [I_3_]
        refine ⟨?_, ?_, ?_, ?_, NoBox.restrict (by intro k hk hb; simp at hk hb; simp [hk, hb, h_11, q_52, q_53, q_54, q_55, hn_56 k (by simp [hk, hb])])⟩ <;> simp [restrict_env, restrict_mem, h_11, q_52, q_53, q_54, q_55]
    · try simp at h_11
      cases hp
      try simp [q_6, q_7, q_8, q_9, h_11]
      refine goal_outX ?_
      rw [X_4_]
      refine ⟨_, rfl, ?_, ?_, NoBox.restrict (by intro k hk hb; simp at hk hb; simp [hk, hb, q_6, q_7, q_8, q_9, h_11, hn_10 k (by simp [hk, hb])])⟩ <;> simp [restrict_env, restrict_mem, q_6, q_7, q_8, q_9, h_11]
  · intro out hX
    rw [X_4_] at hX
    obtain ⟨σ_59, rfl, q_60, q_61, hn_62⟩ := hX
    cases hp
    simp [Goal, FnEnd, q_60, q_61]
theorem pc181 : PC Try.prog 181 C181 := pc_of (g := g181) (ctxOK_of [(164, C164), (165, C165)] rfl ⟨pc164, pc165, trivial⟩) ⟨Try.f181, Try.func181, by kernel_rfl, by kernel_rfl⟩ fun x y h => w181 h
end Go.Proofs

