import Derived.Test.YtmmliafoddlgfaaEvA14
set_option linter.unusedSimpArgs false
set_option linter.unusedVariables false
set_option linter.unnecessarySimpa false
namespace Go.Proofs
open Go.Ev
noncomputable def C91 : List AV → Option AV := specP (X := (List ByteArray) × ByteArray × Unit) fun x => slices_Index_string x.1 x.2.1
theorem C91_eq {s v} {y} (h : slices_Index_string s v = some y) : C91 [av .shr s, av .shr v] = some (Res.res y) := specP_eq (X := (List ByteArray) × ByteArray × Unit) (F := fun x => slices_Index_string x.1 x.2.1) (x := (s, v, ())) h
noncomputable def g91 : Cfg := { P := Try.prog, take := [], keep := [((91, 2), { hd := [0, 1, 7, 8], bx := [], ex := [], rt := [4] })], gho := [], ctx := [] }
@[simp] theorem g91_P : g91.P = Try.prog := rfl
@[simp] theorem g91_t : g91.take = [] := rfl
@[simp] theorem g91_g : g91.gho = [] := rfl
@[simp] theorem g91_r : g91.ro = [] := rfl
@[simp] theorem g91_w : g91.away = [] ∧ g91.give = [] ∧ g91.octx = [] := by rw [g91]; exact ⟨rfl, rfl, rfl⟩
set_option maxHeartbeats 4000000 in
set_option maxRecDepth 100000 in
theorem w91 {s v} {y} (hp : slices_Index_string s v = some y) : ∃ m, callo g91 0 91 [av .shr s, av .shr v] mem0 = some (Res.res y, m) := by
  refine start_fn (Try.f91.body.getD .skip) [.tmp 4] rfl rfl Try.func91 (by kernel_rfl) (by kernel_rfl) (by simp [Try.ntmps91]) rfl ?_
  unfold slices_Index_string at hp
  simp [Try.f91]
  obtain ⟨r_18, h_19, hp⟩ := bind_some hp
  obtain ⟨I_3, I_3_⟩ : ∃ I : Int → St → Prop, I = (fun (s_1 : Int) (σ : St) => σ.env 0 = .one (.l .shr s.length (encL s)) ∧ σ.env 1 = .one (.s (.string v)) ∧ σ.env 7 = .one (.s (.int .i64 (s.length : Int))) ∧ σ.env 8 = .one (.s (.int .i64 s_1)) ∧ σ.mem = mem0) := ⟨_, rfl⟩
  obtain ⟨X_4, X_4_⟩ : ∃ X : ((Int) ⊕ (Unit)) → Out → Prop, X = (fun (r_18 : (Int) ⊕ (Unit)) (out : Out) => Sum.elim (fun r_18 => ∃ σ : St, out = .ret σ ∧ σ.env 4 = .one (.s (.int .i64 r_18)) ∧ σ.mem = mem0) (fun r_18 => ∃ σ : St, out = .exit 0 σ ∧ σ.mem = mem0) r_18) := ⟨_, rfl⟩
  refine loopP ({ hd := [0, 1, 7, 8], bx := [], ex := [], rt := [4] }) I_3 X_4 h_19 (by exact rfl) ?_ ?_ ?_
  · rw [I_3_]
    refine ⟨?_, ?_, ?_, ?_, ?_⟩ <;> simp [restrict_env, restrict_mem]
  · intro s_1 σ_5 a_2 hI hp
    rw [I_3_] at hI
    obtain ⟨q_6, q_7, q_8, q_9, q_10⟩ := hI
    try simp [q_6, q_7, q_8, q_9, q_10]
    rcases cond_cases hp with ⟨h_11, hp⟩ | ⟨h_11, hp⟩
    · try simp at h_11
      obtain ⟨e_12, h_13, hp⟩ := bind_some hp
      have b_14 := at_lo h_13
      have b_15 := at_hi h_13
      try simp at b_14
      try simp at b_15
      have c_16 := seg_at' h_13 0 1 (by decide) (ds := [.sc (.string e_12)]) rfl
      try simp at c_16
      try simp [q_6, q_7, q_8, q_9, q_10, h_11, b_14, b_15, c_16]
      rcases cond_cases hp with ⟨h_17, hp⟩ | ⟨h_17, hp⟩
      · try simp at h_17
        cases hp
        try simp [q_6, q_7, q_8, q_9, q_10, h_11, h_17]
        refine goal_outR ?_
        rw [X_4_]
        refine ⟨_, rfl, ?_, ?_⟩ <;> simp [restrict_env, restrict_mem, q_6, q_7, q_8, q_9, q_10, h_11, h_17]
      · try simp at h_17
        cases hp
        try simp [q_6, q_7, q_8, q_9, q_10, h_11, h_17]
        refine goal_next ?_
        rw [I_3_]
        refine ⟨?_, ?_, ?_, ?_, ?_⟩ <;> simp [restrict_env, restrict_mem, q_6, q_7, q_8, q_9, q_10, h_11, h_17]
    · try simp at h_11
      cases hp
      try simp [q_6, q_7, q_8, q_9, q_10, h_11]
      refine goal_outX ?_
      rw [X_4_]
      exact ⟨_, rfl, by simp [restrict_mem, q_6, q_7, q_8, q_9, q_10, h_11]⟩
  · intro out hX
    rw [X_4_] at hX
    rcases r_18 with r_18 | r_18
    · simp only [Sum.elim_inl, Sum.elim_inr] at hX hp
      obtain ⟨σ_20, rfl, q_21, q_22⟩ := hX
      cases hp
      simp [Goal, FnEnd, q_21, q_22]
    · simp only [Sum.elim_inl, Sum.elim_inr] at hX hp
      obtain ⟨σ_23, rfl, q_24⟩ := hX
      cases hp
      simp [Goal, FnEnd, q_24]
theorem pc91 : PC Try.prog 91 C91 := pc_of (g := g91) (ctxOK_of [] rfl trivial) ⟨Try.f91, Try.func91, by kernel_rfl, by kernel_rfl⟩ fun x y h => w91 h

noncomputable def C64 : List AV → Option AV := specP (X := (List ByteArray) × ByteArray × Unit) fun x => impl_IndexOf x.1 x.2.1
theorem C64_eq {list s} {y} (h : impl_IndexOf list s = some y) : C64 [av .shr list, av .shr s] = some (Res.res y) := specP_eq (X := (List ByteArray) × ByteArray × Unit) (F := fun x => impl_IndexOf x.1 x.2.1) (x := (list, s, ())) h
noncomputable def g64 : Cfg := { P := Try.prog, take := [], keep := [], gho := [], ctx := [(91, C91)] }
@[simp] theorem g64_P : g64.P = Try.prog := rfl
@[simp] theorem g64_t : g64.take = [] := rfl
@[simp] theorem g64_g : g64.gho = [] := rfl
@[simp] theorem g64_r : g64.ro = [] := rfl
@[simp] theorem g64_w : g64.away = [] ∧ g64.give = [] ∧ g64.octx = [] := by rw [g64]; exact ⟨rfl, rfl, rfl⟩
@[simp] theorem g64_91 : lookN 91 g64.ctx = some C91 := rfl
set_option maxHeartbeats 4000000 in
set_option maxRecDepth 100000 in
theorem w64 {list s} {y} (hp : impl_IndexOf list s = some y) : ∃ m, callo g64 0 64 [av .shr list, av .shr s] mem0 = some (Res.res y, m) := by
  refine start_fn (Try.f64.body.getD .skip) [.tmp 4] rfl rfl Try.func64 (by kernel_rfl) (by kernel_rfl) (by simp [Try.ntmps64]) rfl ?_
  unfold impl_IndexOf at hp
  obtain ⟨y_1, h_2, hp⟩ := bind_some hp
  have c_3 := C91_eq h_2
  simp at c_3
  cases hp
  simp [Try.f64, Goal, FnEnd, c_3]
theorem pc64 : PC Try.prog 64 C64 := pc_of (g := g64) (ctxOK_of [(91, C91)] rfl ⟨pc91, trivial⟩) ⟨Try.f64, Try.func64, by kernel_rfl, by kernel_rfl⟩ fun x y h => w64 h

noncomputable def C56 : List AV → Option AV := specP (X := (List ByteArray) × Unit) fun x => impl_AreVars x.1
theorem C56_eq {list} {y} (h : impl_AreVars list = some y) : C56 [av .shr list] = some (Res.res y) := specP_eq (X := (List ByteArray) × Unit) (F := fun x => impl_AreVars x.1) (x := (list, ())) h
noncomputable def g56 : Cfg := { P := Try.prog, take := [], keep := [((56, 2), { hd := [0, 5, 6, 7], bx := [], ex := [0], rt := [2] })], gho := [], ctx := [(38, C38), (64, C64), (82, C82)] }
@[simp] theorem g56_P : g56.P = Try.prog := rfl
@[simp] theorem g56_t : g56.take = [] := rfl
@[simp] theorem g56_g : g56.gho = [] := rfl
@[simp] theorem g56_r : g56.ro = [] := rfl
@[simp] theorem g56_w : g56.away = [] ∧ g56.give = [] ∧ g56.octx = [] := by rw [g56]; exact ⟨rfl, rfl, rfl⟩
@[simp] theorem g56_38 : lookN 38 g56.ctx = some C38 := rfl
@[simp] theorem g56_64 : lookN 64 g56.ctx = some C64 := rfl
@[simp] theorem g56_82 : lookN 82 g56.ctx = some C82 := rfl
set_option maxHeartbeats 4000000 in
set_option maxRecDepth 100000 in
theorem w56 {list} {y} (hp : impl_AreVars list = some y) : ∃ m, callo g56 0 56 [av .shr list] mem0 = some (Res.res y, m) := by
  refine start_fn (Try.f56.body.getD .skip) [.tmp 2] rfl rfl Try.func56 (by kernel_rfl) (by kernel_rfl) (by simp [Try.ntmps56]) rfl ?_
  unfold impl_AreVars at hp
  simp [Try.f56]
  obtain ⟨r_25, h_26, hp⟩ := bind_some hp
  obtain ⟨I_3, I_3_⟩ : ∃ I : Int → St → Prop, I = (fun (s_1 : Int) (σ : St) => σ.env 0 = .one (.l .shr list.length (encL list)) ∧ σ.env 5 = .one (.l .shr list.length (encL list)) ∧ σ.env 6 = .one (.s (.int .i64 (list.length : Int))) ∧ σ.env 7 = .one (.s (.int .i64 s_1)) ∧ σ.mem = mem0) := ⟨_, rfl⟩
  obtain ⟨X_4, X_4_⟩ : ∃ X : ((Unit) ⊕ (Unit)) → Out → Prop, X = (fun (r_25 : (Unit) ⊕ (Unit)) (out : Out) => Sum.elim (fun r_25 => ∃ σ : St, out = .ret σ ∧ σ.env 2 = .one (.s (.bool false)) ∧ σ.mem = mem0) (fun r_25 => ∃ σ : St, out = .exit 0 σ ∧ σ.env 0 = .one (.l .shr list.length (encL list)) ∧ σ.mem = mem0) r_25) := ⟨_, rfl⟩
  refine loopP ({ hd := [0, 5, 6, 7], bx := [], ex := [0], rt := [2] }) I_3 X_4 h_26 (by exact rfl) ?_ ?_ ?_
  · rw [I_3_]
    refine ⟨?_, ?_, ?_, ?_, ?_⟩ <;> simp [restrict_env, restrict_mem]
  · intro s_1 σ_5 a_2 hI hp
    rw [I_3_] at hI
    obtain ⟨q_6, q_7, q_8, q_9, q_10⟩ := hI
    try simp [q_6, q_7, q_8, q_9, q_10]
    rcases cond_cases hp with ⟨h_11, hp⟩ | ⟨h_11, hp⟩
    · try simp at h_11
      obtain ⟨e_12, h_13, hp⟩ := bind_some hp
      have b_14 := at_lo h_13
      have b_15 := at_hi h_13
      try simp at b_14
      try simp at b_15
      have c_16 := seg_at' h_13 0 1 (by decide) (ds := [.sc (.string e_12)]) rfl
      try simp at c_16
      obtain ⟨y_17, h_18, hp⟩ := bind_some hp
      have c_19 := C82_eq h_18
      simp at c_19
      try simp [q_6, q_7, q_8, q_9, q_10, h_11, b_14, b_15, c_16, c_19]
      rcases cond_cases hp with ⟨h_20, hp⟩ | ⟨h_20, hp⟩
      · try simp at h_20
        obtain ⟨y_21, h_22, hp⟩ := bind_some hp
        have c_23 := C64_eq h_22
        simp at c_23
        try simp [q_6, q_7, q_8, q_9, q_10, h_11, h_20, c_23]
        rcases cond_cases hp with ⟨h_24, hp⟩ | ⟨h_24, hp⟩
        · try simp at h_24
          cases hp
          try simp [q_6, q_7, q_8, q_9, q_10, h_11, h_20, h_24]
          refine goal_outR ?_
          rw [X_4_]
          refine ⟨_, rfl, ?_, ?_⟩ <;> simp [restrict_env, restrict_mem, q_6, q_7, q_8, q_9, q_10, h_11, h_20, h_24]
        · try simp at h_24
          cases hp
          try simp [q_6, q_7, q_8, q_9, q_10, h_11, h_20, h_24]
          refine goal_next ?_
          rw [I_3_]
          refine ⟨?_, ?_, ?_, ?_, ?_⟩ <;> simp [restrict_env, restrict_mem, q_6, q_7, q_8, q_9, q_10, h_11, h_20, h_24]
      · try simp at h_20
        cases hp
        try simp [q_6, q_7, q_8, q_9, q_10, h_11, h_20]
        refine goal_outR ?_
        rw [X_4_]
        refine ⟨_, rfl, ?_, ?_⟩ <;> simp [restrict_env, restrict_mem, q_6, q_7, q_8, q_9, q_10, h_11, h_20]
    · try simp at h_11
      cases hp
      try simp [q_6, q_7, q_8, q_9, q_10, h_11]
      refine goal_outX ?_
      rw [X_4_]
      refine ⟨_, rfl, ?_, ?_⟩ <;> simp [restrict_env, restrict_mem, q_6, q_7, q_8, q_9, q_10, h_11]
  · intro out hX
    rw [X_4_] at hX
    rcases r_25 with r_25 | r_25
    · simp only [Sum.elim_inl, Sum.elim_inr] at hX hp
      obtain ⟨σ_27, rfl, q_28, q_29⟩ := hX
      cases hp
      simp [Goal, FnEnd, q_28, q_29]
    · simp only [Sum.elim_inl, Sum.elim_inr] at hX hp
      obtain ⟨σ_30, rfl, q_31, q_32⟩ := hX
      obtain ⟨y_33, h_34, hp⟩ := bind_some hp
      have c_35 := C38_eq h_34
      simp at c_35
      cases hp
      simp [Goal, FnEnd, q_31, q_32, c_35]
theorem pc56 : PC Try.prog 56 C56 := pc_of (g := g56) (ctxOK_of [(38, C38), (64, C64), (82, C82)] rfl ⟨pc38, pc64, pc82, trivial⟩) ⟨Try.f56, Try.func56, by kernel_rfl, by kernel_rfl⟩ fun x y h => w56 h

noncomputable def C86 : List AV → Option AV := specP (X := (List ByteArray) × ByteArray × Unit) fun x => slices_Contains_string x.1 x.2.1
theorem C86_eq {s v} {y} (h : slices_Contains_string s v = some y) : C86 [av .shr s, av .shr v] = some (Res.res y) := specP_eq (X := (List ByteArray) × ByteArray × Unit) (F := fun x => slices_Contains_string x.1 x.2.1) (x := (s, v, ())) h
noncomputable def g86 : Cfg := { P := Try.prog, take := [], keep := [], gho := [], ctx := [(91, C91)] }
@[simp] theorem g86_P : g86.P = Try.prog := rfl
@[simp] theorem g86_t : g86.take = [] := rfl
@[simp] theorem g86_g : g86.gho = [] := rfl
@[simp] theorem g86_r : g86.ro = [] := rfl
@[simp] theorem g86_w : g86.away = [] ∧ g86.give = [] ∧ g86.octx = [] := by rw [g86]; exact ⟨rfl, rfl, rfl⟩
@[simp] theorem g86_91 : lookN 91 g86.ctx = some C91 := rfl
set_option maxHeartbeats 4000000 in
set_option maxRecDepth 100000 in
theorem w86 {s v} {y} (hp : slices_Contains_string s v = some y) : ∃ m, callo g86 0 86 [av .shr s, av .shr v] mem0 = some (Res.res y, m) := by
  refine start_fn (Try.f86.body.getD .skip) [.tmp 4] rfl rfl Try.func86 (by kernel_rfl) (by kernel_rfl) (by simp [Try.ntmps86]) rfl ?_
  unfold slices_Contains_string at hp
  obtain ⟨y_1, h_2, hp⟩ := bind_some hp
  have c_3 := C91_eq h_2
  simp at c_3
  cases hp
  simp [Try.f86, Goal, FnEnd, c_3]
theorem pc86 : PC Try.prog 86 C86 := pc_of (g := g86) (ctxOK_of [(91, C91)] rfl ⟨pc91, trivial⟩) ⟨Try.f86, Try.func86, by kernel_rfl, by kernel_rfl⟩ fun x y h => w86 h

noncomputable def C97 : List AV → Option AV := specP (X := Int × Unit) fun x => impl_NamesOf x.1
theorem C97_eq {kind} {y} (h : impl_NamesOf kind = some y) : C97 [av .shr kind] = some (Res.res y) := specP_eq (X := Int × Unit) (F := fun x => impl_NamesOf x.1) (x := (kind, ())) h
noncomputable def g97 : Cfg := { P := Try.prog, take := [], keep := [], gho := [], ctx := [(38, C38)] }
@[simp] theorem g97_P : g97.P = Try.prog := rfl
@[simp] theorem g97_t : g97.take = [] := rfl
@[simp] theorem g97_g : g97.gho = [] := rfl
@[simp] theorem g97_r : g97.ro = [] := rfl
@[simp] theorem g97_w : g97.away = [] ∧ g97.give = [] ∧ g97.octx = [] := by rw [g97]; exact ⟨rfl, rfl, rfl⟩
@[simp] theorem g97_38 : lookN 38 g97.ctx = some C38 := rfl
set_option maxHeartbeats 4000000 in
set_option maxRecDepth 100000 in
theorem w97 {kind} {y} (hp : impl_NamesOf kind = some y) : ∃ m, callo g97 0 97 [av .shr kind] mem0 = some (Res.res y, m) := by
  refine start_fn (Try.f97.body.getD .skip) [.tmp 2] rfl rfl Try.func97 (by kernel_rfl) (by kernel_rfl) (by simp [Try.ntmps97]) rfl ?_
  unfold impl_NamesOf at hp
  obtain ⟨y_1, h_2, hp⟩ := bind_some hp
  have c_3 := C38_eq h_2
  simp at c_3
  simp [Try.f97, c_3]
  rcases cond_cases hp with ⟨h_4, hp⟩ | ⟨h_4, hp⟩
  · try simp at h_4
    obtain ⟨e_5, h_6, hp⟩ := bind_some hp
    have b_7 := at_lo h_6
    have b_8 := at_hi h_6
    try simp at b_7
    try simp at b_8
    have c_9 := seg_at' h_6 0 1 (by decide) (ds := [.sc (.int .i64 e_5)]) rfl
    try simp at c_9
    cases hp
    simp [Goal, FnEnd, h_4, b_7, b_8, c_9]
  · try simp at h_4
    cases hp
    simp [Goal, FnEnd, h_4]
theorem pc97 : PC Try.prog 97 C97 := pc_of (g := g97) (ctxOK_of [(38, C38)] rfl ⟨pc38, trivial⟩) ⟨Try.f97, Try.func97, by kernel_rfl, by kernel_rfl⟩ fun x y h => w97 h

abbrev G84 (g : Cfg) : Prop := Has Try.prog g 84 Try.f84 [] [(3, { hd := [1, 5, 15, 16, 17], bx := [], ex := [5], rt := [4] })] [(97, C97)] []
set_option maxHeartbeats 4000000 in
set_option maxRecDepth 100000 in
theorem wI84 {g : Cfg} (G : G84 g) {d : Nat} {mem : Mem} (hT : Tight d mem)  {s : TStmt} {accept : (ByteArray → Option (Bool))} {fk_accept : Nat} {caps_accept : List (Key × Nat)} (hl_accept : ∀ c ∈ caps_accept, c.1.1 ≤ d) (hc_accept : Clo g d mem fk_accept caps_accept fun x : ByteArray × Unit => accept x.1) {y} (hp : impl_Stmt_hasNames s accept = some y) : callo g d 84 [av .shr s, .one (.fn fk_accept caps_accept)] mem = some (Res.res y, mem) := by
  have gP := G.P; have gt := G.tk; have gr := G.ro; have gg := G.gh
  have k_3 := G.kp (3, { hd := [1, 5, 15, 16, 17], bx := [], ex := [5], rt := [4] }) (by simp)
  have c_97 := G.cs (97, C97) (by simp)
  have hT2 : memKill (fun k => decide (d < k.1)) mem = mem := hT
  have hm0 : ∀ t, mem (d + 1, t) = none := fun t => hT.none (by simp)
  refine start_in (Try.f84.body.getD .skip) [.tmp 4] G Try.func84 (by kernel_rfl) (by simp [Try.ntmps84]) rfl ?_
  unfold impl_Stmt_hasNames at hp
  obtain ⟨y_1, h_2, hp⟩ := bind_some hp
  have c_3 := C97_eq h_2
  simp at c_3
  simp [Try.f84, gP, gt, gr, gg, hm0, c_97, c_3]
  obtain ⟨r_32, h_33, hp⟩ := bind_some hp
  obtain ⟨I_6, I_6_⟩ : ∃ I : Int → St → Prop, I = (fun (s_4 : Int) (σ : St) => σ.env 1 = .one (.fn fk_accept caps_accept) ∧ σ.env 5 = .one (.s (.int .i64 y_1)) ∧ σ.env 15 = .one (.l .own [s.a, s.b].length (encL [s.a, s.b])) ∧ σ.env 16 = .one (.s (.int .i64 ([s.a, s.b].length : Int))) ∧ σ.env 17 = .one (.s (.int .i64 s_4)) ∧ σ.mem (d + 1, 2) = some [(.s (.int .i64 s.kind)), (.s (.string s.a)), (.s (.string s.b))] ∧ Tight (d + 1) σ.mem ∧ Agree d mem σ.mem ∧ NoBoxD d [(d + 1, 2)] σ.mem) := ⟨_, rfl⟩
  obtain ⟨X_7, X_7_⟩ : ∃ X : ((Unit) ⊕ (Unit)) → Out → Prop, X = (fun (r_32 : (Unit) ⊕ (Unit)) (out : Out) => Sum.elim (fun r_32 => ∃ σ : St, out = .ret σ ∧ σ.env 4 = .one (.s (.bool false)) ∧ σ.mem (d + 1, 2) = some [(.s (.int .i64 s.kind)), (.s (.string s.a)), (.s (.string s.b))] ∧ Tight (d + 1) σ.mem ∧ Agree d mem σ.mem ∧ NoBoxD d [(d + 1, 2)] σ.mem) (fun r_32 => ∃ σ : St, out = .exit 0 σ ∧ σ.env 5 = .one (.s (.int .i64 y_1)) ∧ σ.mem (d + 1, 2) = some [(.s (.int .i64 s.kind)), (.s (.string s.a)), (.s (.string s.b))] ∧ Tight (d + 1) σ.mem ∧ Agree d mem σ.mem ∧ NoBoxD d [(d + 1, 2)] σ.mem) r_32) := ⟨_, rfl⟩
  refine loopP ({ hd := [1, 5, 15, 16, 17], bx := [], ex := [5], rt := [4] }) I_6 X_7 h_33 (by exact k_3) ?_ ?_ ?_
  · rw [I_6_]
    refine ⟨by simp [restrict_env, gP, gt, gr, gg, hm0, c_97] <;> first | (intro x x1 x2 hx; have h0 := hl_accept _ hx; simp at h0; omega) | (intro x hx; have h0 := hl_accept _ hx; simp at h0; omega), ?_, ?_, ?_, ?_, ?_, (by repeat (first | exact tight_mem0 _ | exact hT.up | exact hT | refine Tight.restrict ?_ | refine Tight.upd ?_ (by simp) (by simp))), (by repeat (first | exact fun k hk => rfl | refine Agree.restrict hT ?_ | refine Agree.upd ?_ (by simp))), NoBoxD.restrict (by intro k hd hk hb; simp at hk hb; simp [hk, hb, gP, gt, gr, gg, hm0, c_97, hT.none hd])⟩ <;> simp [restrict_env, restrict_mem, gP, gt, gr, gg, hm0, c_97]
  · intro s_4 σ_8 a_5 hI hp
    rw [I_6_] at hI
    obtain ⟨q_9, q_10, q_11, q_12, q_13, q_14, ht_15, ha_16, hn_17⟩ := hI
    try simp [gP, gt, gr, gg, hm0, c_97, q_9, q_10, q_11, q_12, q_13, q_14]
    rcases cond_cases hp with ⟨h_18, hp⟩ | ⟨h_18, hp⟩
    · try simp at h_18
      obtain ⟨e_19, h_20, hp⟩ := bind_some hp
      have b_21 := at_lo h_20
      have b_22 := at_hi h_20
      try simp at b_21
      try simp at b_22
      have c_23 := seg_at' h_20 0 1 (by decide) (ds := [.sc (.string e_19)]) rfl
      try simp at c_23
      try simp [gP, gt, gr, gg, hm0, c_97, q_9, q_10, q_11, q_12, q_13, q_14, h_18, b_21, b_22, c_23]
      rcases cond_cases hp with ⟨h_24, hp⟩ | ⟨h_24, hp⟩
      · try simp at h_24
        obtain ⟨y_25, h_26, hp⟩ := bind_some hp
        try simp [gP, gt, gr, gg, hm0, c_97, q_9, q_10, q_11, q_12, q_13, q_14, h_18, h_24]
        refine goal_call ([av .shr e_19] ++ capsAV caps_accept) (Res.res y_25) (by simp [capsAV, gP, gt, gr, gg, hm0, c_97, q_9, q_10, q_11, q_12, q_13, q_14, h_18, h_24]) (hc_accept _ _ _ (e_19, ()) _ (Nat.le_succ d) (by repeat (first | exact ha_16 | exact fun k hk => rfl | refine Agree.upd ?_ (by simp))) (by repeat (first | exact ht_15 | exact tight_mem0 _ | exact hT.up | exact hT | (simp only [q_9, q_10, q_11, q_12, q_13, q_14]; done) | refine Tight.upd ?_ (by simp) (by simp))) ⟨_, _, (.inl rfl), rfl, rfl⟩ h_26) ?_
        try simp [gP, gt, gr, gg, hm0, c_97, q_9, q_10, q_11, q_12, q_13, q_14, h_18, h_24]
        rcases cond_cases hp with ⟨h_27, hp⟩ | ⟨h_27, hp⟩
        · try simp at h_27
          try simp [gP, gt, gr, gg, hm0, c_97, q_9, q_10, q_11, q_12, q_13, q_14, h_18, h_24, h_27]
          rcases cond_cases hp with ⟨h_28, hp⟩ | ⟨h_28, hp⟩
          · try simp at h_28
            try simp [gP, gt, gr, gg, hm0, c_97, q_9, q_10, q_11, q_12, q_13, q_14, h_18, h_24, h_27, h_28]
            rcases cond_cases hp with ⟨h_29, hp⟩ | ⟨h_29, hp⟩
            · try simp at h_29
              cases hp
              try simp [gP, gt, gr, gg, hm0, c_97, q_9, q_10, q_11, q_12, q_13, q_14, h_18, h_24, h_27, h_28, h_29]
              refine goal_outR ?_
              rw [X_7_]
              refine ⟨_, rfl, ?_, ?_, (by repeat (first | exact ht_15 | exact tight_mem0 _ | exact hT.up | exact hT | refine Tight.restrict ?_ | refine Tight.upd ?_ (by simp) (by simp))), (by repeat (first | exact ha_16 | exact fun k hk => rfl | refine Agree.restrict hT ?_ | refine Agree.upd ?_ (by simp))), NoBoxD.restrict (by intro k hd hk hb; simp at hk hb; simp [hk, hb, gP, gt, gr, gg, hm0, c_97, q_9, q_10, q_11, q_12, q_13, q_14, h_18, h_24, h_27, h_28, h_29, hn_17 k hd (by simp [hk, hb])])⟩ <;> simp [restrict_env, restrict_mem, gP, gt, gr, gg, hm0, c_97, q_9, q_10, q_11, q_12, q_13, q_14, h_18, h_24, h_27, h_28, h_29]
            · try simp at h_29
              cases hp
              try simp [gP, gt, gr, gg, hm0, c_97, q_9, q_10, q_11, q_12, q_13, q_14, h_18, h_24, h_27, h_28, h_29]
              refine goal_next ?_
              rw [I_6_]
              refine ⟨by simp [restrict_env, gP, gt, gr, gg, hm0, c_97, q_9, q_10, q_11, q_12, q_13, q_14, h_18, h_24, h_27, h_28, h_29] <;> first | (intro x x1 x2 hx; have h0 := hl_accept _ hx; simp at h0; omega) | (intro x hx; have h0 := hl_accept _ hx; simp at h0; omega), ?_, ?_, ?_, ?_, ?_, (by repeat (first | exact ht_15 | exact tight_mem0 _ | exact hT.up | exact hT | refine Tight.restrict ?_ | refine Tight.upd ?_ (by simp) (by simp))), (by repeat (first | exact ha_16 | exact fun k hk => rfl | refine Agree.restrict hT ?_ | refine Agree.upd ?_ (by simp))), NoBoxD.restrict (by intro k hd hk hb; simp at hk hb; simp [hk, hb, gP, gt, gr, gg, hm0, c_97, q_9, q_10, q_11, q_12, q_13, q_14, h_18, h_24, h_27, h_28, h_29, hn_17 k hd (by simp [hk, hb])])⟩ <;> simp [restrict_env, restrict_mem, gP, gt, gr, gg, hm0, c_97, q_9, q_10, q_11, q_12, q_13, q_14, h_18, h_24, h_27, h_28, h_29]
          · try simp at h_28
            cases hp
            try simp [gP, gt, gr, gg, hm0, c_97, q_9, q_10, q_11, q_12, q_13, q_14, h_18, h_24, h_27, h_28]
            refine goal_next ?_
            rw [I_6_]
            refine ⟨by simp [restrict_env, gP, gt, gr, gg, hm0, c_97, q_9, q_10, q_11, q_12, q_13, q_14, h_18, h_24, h_27, h_28] <;> first | (intro x x1 x2 hx; have h0 := hl_accept _ hx; simp at h0; omega) | (intro x hx; have h0 := hl_accept _ hx; simp at h0; omega), ?_, ?_, ?_, ?_, ?_, (by repeat (first | exact ht_15 | exact tight_mem0 _ | exact hT.up | exact hT | refine Tight.restrict ?_ | refine Tight.upd ?_ (by simp) (by simp))), (by repeat (first | exact ha_16 | exact fun k hk => rfl | refine Agree.restrict hT ?_ | refine Agree.upd ?_ (by simp))), NoBoxD.restrict (by intro k hd hk hb; simp at hk hb; simp [hk, hb, gP, gt, gr, gg, hm0, c_97, q_9, q_10, q_11, q_12, q_13, q_14, h_18, h_24, h_27, h_28, hn_17 k hd (by simp [hk, hb])])⟩ <;> simp [restrict_env, restrict_mem, gP, gt, gr, gg, hm0, c_97, q_9, q_10, q_11, q_12, q_13, q_14, h_18, h_24, h_27, h_28]
        · try simp at h_27
          cases hp
          try simp [gP, gt, gr, gg, hm0, c_97, q_9, q_10, q_11, q_12, q_13, q_14, h_18, h_24, h_27]
          refine goal_outR ?_
          rw [X_7_]
          refine ⟨_, rfl, ?_, ?_, (by repeat (first | exact ht_15 | exact tight_mem0 _ | exact hT.up | exact hT | refine Tight.restrict ?_ | refine Tight.upd ?_ (by simp) (by simp))), (by repeat (first | exact ha_16 | exact fun k hk => rfl | refine Agree.restrict hT ?_ | refine Agree.upd ?_ (by simp))), NoBoxD.restrict (by intro k hd hk hb; simp at hk hb; simp [hk, hb, gP, gt, gr, gg, hm0, c_97, q_9, q_10, q_11, q_12, q_13, q_14, h_18, h_24, h_27, hn_17 k hd (by simp [hk, hb])])⟩ <;> simp [restrict_env, restrict_mem, gP, gt, gr, gg, hm0, c_97, q_9, q_10, q_11, q_12, q_13, q_14, h_18, h_24, h_27]
      · try simp at h_24
        try simp [gP, gt, gr, gg, hm0, c_97, q_9, q_10, q_11, q_12, q_13, q_14, h_18, h_24]
        rcases cond_cases hp with ⟨h_30, hp⟩ | ⟨h_30, hp⟩
        · try simp at h_30
          try simp [gP, gt, gr, gg, hm0, c_97, q_9, q_10, q_11, q_12, q_13, q_14, h_18, h_24, h_30]
          rcases cond_cases hp with ⟨h_31, hp⟩ | ⟨h_31, hp⟩
          · try simp at h_31
            cases hp
            try simp [gP, gt, gr, gg, hm0, c_97, q_9, q_10, q_11, q_12, q_13, q_14, h_18, h_24, h_30, h_31]
            refine goal_outR ?_
            rw [X_7_]
            refine ⟨_, rfl, ?_, ?_, (by repeat (first | exact ht_15 | exact tight_mem0 _ | exact hT.up | exact hT | refine Tight.restrict ?_ | refine Tight.upd ?_ (by simp) (by simp))), (by repeat (first | exact ha_16 | exact fun k hk => rfl | refine Agree.restrict hT ?_ | refine Agree.upd ?_ (by simp))), NoBoxD.restrict (by intro k hd hk hb; simp at hk hb; simp [hk, hb, gP, gt, gr, gg, hm0, c_97, q_9, q_10, q_11, q_12, q_13, q_14, h_18, h_24, h_30, h_31, hn_17 k hd (by simp [hk, hb])])⟩ <;> simp [restrict_env, restrict_mem, gP, gt, gr, gg, hm0, c_97, q_9, q_10, q_11, q_12, q_13, q_14, h_18, h_24, h_30, h_31]
          · try simp at h_31
            cases hp
            try simp [gP, gt, gr, gg, hm0, c_97, q_9, q_10, q_11, q_12, q_13, q_14, h_18, h_24, h_30, h_31]
            refine goal_next ?_
            rw [I_6_]
            refine ⟨by simp [restrict_env, gP, gt, gr, gg, hm0, c_97, q_9, q_10, q_11, q_12, q_13, q_14, h_18, h_24, h_30, h_31] <;> first | (intro x x1 x2 hx; have h0 := hl_accept _ hx; simp at h0; omega) | (intro x hx; have h0 := hl_accept _ hx; simp at h0; omega), ?_, ?_, ?_, ?_, ?_, (by repeat (first | exact ht_15 | exact tight_mem0 _ | exact hT.up | exact hT | refine Tight.restrict ?_ | refine Tight.upd ?_ (by simp) (by simp))), (by repeat (first | exact ha_16 | exact fun k hk => rfl | refine Agree.restrict hT ?_ | refine Agree.upd ?_ (by simp))), NoBoxD.restrict (by intro k hd hk hb; simp at hk hb; simp [hk, hb, gP, gt, gr, gg, hm0, c_97, q_9, q_10, q_11, q_12, q_13, q_14, h_18, h_24, h_30, h_31, hn_17 k hd (by simp [hk, hb])])⟩ <;> simp [restrict_env, restrict_mem, gP, gt, gr, gg, hm0, c_97, q_9, q_10, q_11, q_12, q_13, q_14, h_18, h_24, h_30, h_31]
        · try simp at h_30
          cases hp
          try simp [gP, gt, gr, gg, hm0, c_97, q_9, q_10, q_11, q_12, q_13, q_14, h_18, h_24, h_30]
          refine goal_next ?_
          rw [I_6_]
          refine ⟨by simp [restrict_env, gP, gt, gr, gg, hm0, c_97, q_9, q_10, q_11, q_12, q_13, q_14, h_18, h_24, h_30] <;> first | (intro x x1 x2 hx; have h0 := hl_accept _ hx; simp at h0; omega) | (intro x hx; have h0 := hl_accept _ hx; simp at h0; omega), ?_, ?_, ?_, ?_, ?_, (by repeat (first | exact ht_15 | exact tight_mem0 _ | exact hT.up | exact hT | refine Tight.restrict ?_ | refine Tight.upd ?_ (by simp) (by simp))), (by repeat (first | exact ha_16 | exact fun k hk => rfl | refine Agree.restrict hT ?_ | refine Agree.upd ?_ (by simp))), NoBoxD.restrict (by intro k hd hk hb; simp at hk hb; simp [hk, hb, gP, gt, gr, gg, hm0, c_97, q_9, q_10, q_11, q_12, q_13, q_14, h_18, h_24, h_30, hn_17 k hd (by simp [hk, hb])])⟩ <;> simp [restrict_env, restrict_mem, gP, gt, gr, gg, hm0, c_97, q_9, q_10, q_11, q_12, q_13, q_14, h_18, h_24, h_30]
    · try simp at h_18
      cases hp
      try simp [gP, gt, gr, gg, hm0, c_97, q_9, q_10, q_11, q_12, q_13, q_14, h_18]
      refine goal_outX ?_
      rw [X_7_]
      refine ⟨_, rfl, ?_, ?_, (by repeat (first | exact ht_15 | exact tight_mem0 _ | exact hT.up | exact hT | refine Tight.restrict ?_ | refine Tight.upd ?_ (by simp) (by simp))), (by repeat (first | exact ha_16 | exact fun k hk => rfl | refine Agree.restrict hT ?_ | refine Agree.upd ?_ (by simp))), NoBoxD.restrict (by intro k hd hk hb; simp at hk hb; simp [hk, hb, gP, gt, gr, gg, hm0, c_97, q_9, q_10, q_11, q_12, q_13, q_14, h_18, hn_17 k hd (by simp [hk, hb])])⟩ <;> simp [restrict_env, restrict_mem, gP, gt, gr, gg, hm0, c_97, q_9, q_10, q_11, q_12, q_13, q_14, h_18]
  · intro out hX
    rw [X_7_] at hX
    rcases r_32 with r_32 | r_32
    · simp only [Sum.elim_inl, Sum.elim_inr] at hX hp
      obtain ⟨σ_34, rfl, q_35, q_36, ht_37, ha_38, hn_39⟩ := hX
      cases hp
      simp [Goal, FnEndI, memKill_hi, gP, gt, gr, gg, hm0, c_97, q_35, q_36, kill_back ha_38 hT]
    · simp only [Sum.elim_inl, Sum.elim_inr] at hX hp
      obtain ⟨σ_40, rfl, q_41, q_42, ht_43, ha_44, hn_45⟩ := hX
      cases hp
      simp [Goal, FnEndI, memKill_hi, gP, gt, gr, gg, hm0, c_97, q_41, q_42, kill_back ha_44 hT]

abbrev G85 (g : Cfg) : Prop := Has Try.prog g 85 Try.f85 [] [] [(86, C86)] []
set_option maxHeartbeats 4000000 in
set_option maxRecDepth 100000 in
theorem wI85 {g : Cfg} (G : G85 g) {d : Nat} {mem : Mem} (hT : Tight d mem) {K_1 : Key} {name : ByteArray} {c0 : (List ByteArray)} {mk_1 : Md} (hk_1 : K_1.1 ≤ d) (hb_1 : mem K_1 = some [(.l mk_1 c0.length (encL c0))]) {y} (hp : impl_IsStmt_1 name c0 = some y) : callo g d 85 [av .shr name, .one (.ptr K_1 0)] mem = some (Res.res y, mem) := by
  have gP := G.P; have gt := G.tk; have gr := G.ro; have gg := G.gh
  have c_86 := G.cs (86, C86) (by simp)
  have hT2 : memKill (fun k => decide (d < k.1)) mem = mem := hT
  have nk_1 : ∀ t, (K_1 = (d + 1, t)) = False := fun t => by simp; intro h; rw [h] at hk_1; simp at hk_1; omega
  refine start_in (Try.f85.body.getD .skip) [.tmp 3] G Try.func85 (by kernel_rfl) (by simp [Try.ntmps85]) rfl ?_
  unfold impl_IsStmt_1 at hp
  obtain ⟨y_1, h_2, hp⟩ := bind_some hp
  have c_3 := C86_eq h_2
  simp at c_3
  cases hp
  simp [Try.f85, Goal, FnEndI, memKill_hi, gP, gt, gr, gg, c_86, hb_1, nk_1, c_3, hT2]

noncomputable def C59 : List AV → Option AV := specP (X := (List ByteArray) × TStmt × Unit) fun x => impl_IsStmt x.1 x.2.1
theorem C59_eq {vars s} {y} (h : impl_IsStmt vars s = some y) : C59 [av .shr vars, av .shr s] = some (Res.res y) := specP_eq (X := (List ByteArray) × TStmt × Unit) (F := fun x => impl_IsStmt x.1 x.2.1) (x := (vars, s, ())) h
noncomputable def g59 : Cfg := { P := Try.prog, take := [], keep := [((84, 3), { hd := [1, 5, 15, 16, 17], bx := [], ex := [5], rt := [4] })], gho := [], ctx := [(56, C56), (86, C86), (97, C97)] }
@[simp] theorem g59_P : g59.P = Try.prog := rfl
@[simp] theorem g59_t : g59.take = [] := rfl
@[simp] theorem g59_g : g59.gho = [] := rfl
@[simp] theorem g59_r : g59.ro = [] := rfl
@[simp] theorem g59_w : g59.away = [] ∧ g59.give = [] ∧ g59.octx = [] := by rw [g59]; exact ⟨rfl, rfl, rfl⟩
@[simp] theorem g59_56 : lookN 56 g59.ctx = some C56 := rfl
@[simp] theorem g59_86 : lookN 86 g59.ctx = some C86 := rfl
@[simp] theorem g59_97 : lookN 97 g59.ctx = some C97 := rfl
@[simp] theorem g59_84 : lookN 84 g59.ctx = none := rfl
@[simp] theorem g59_85 : lookN 85 g59.ctx = none := rfl
set_option maxHeartbeats 4000000 in
set_option maxRecDepth 100000 in
theorem w59 {vars s} {y} (hp : impl_IsStmt vars s = some y) : ∃ m, callo g59 0 59 [av .shr vars, av .shr s] mem0 = some (Res.res y, m) := by
  have G_84 : G84 g59 := ⟨rfl, by kernel_rfl, rfl, fun t => by simp, noAway (fun t => by simp) (by simp) (fun t => by simp), by simp [lookN], fun i => by simp [lookK], by simp [g59, lookK], by simp⟩
  have G_85 : G85 g59 := ⟨rfl, by kernel_rfl, rfl, fun t => by simp, noAway (fun t => by simp) (by simp) (fun t => by simp), by simp [lookN], fun i => by simp [lookK], by simp [g59, lookK], by simp⟩
  refine start_fn (Try.f59.body.getD .skip) [.tmp 4] rfl rfl Try.func59 (by kernel_rfl) (by kernel_rfl) (by simp [Try.ntmps59]) rfl ?_
  unfold impl_IsStmt at hp
  obtain ⟨y_1, h_2, hp⟩ := bind_some hp
  have c_3 := C56_eq h_2
  simp at c_3
  simp [Try.f59, c_3]
  rcases cond_cases hp with ⟨h_4, hp⟩ | ⟨h_4, hp⟩
  · try simp at h_4
    obtain ⟨y_5, h_6, hp⟩ := bind_some hp
    try simp [h_4]
    refine goal_call [av .shr s, .one (.fn 85 [((1, 2), 0)])] (Res.res y_5) (by simp [h_4]) (wI84 G_84 (by repeat (first | exact tight_mem0 _ | exact hT.up | exact hT | (simp only [true_and]; done) | refine Tight.upd ?_ (by simp) (by simp))) (by simp) (clo1 (p := fun x0 => impl_IsStmt_1 x0 vars) fun d2 mem2 m0 x0 r2 hd2 ha2 hT2 hm0 hr2 => wI85 (mk_1 := .shr) G_85 hT2 (show 1 ≤ d2 from hd2) ((ha2 _ (Nat.le_refl _)).trans (by simp [h_4])) hr2) h_6) ?_
    cases hp
    simp [Goal, FnEnd, h_4]
  · try simp at h_4
    cases hp
    simp [Goal, FnEnd, h_4]
theorem pc59 : PC Try.prog 59 C59 := pc_of (g := g59) (ctxOK_of [(56, C56), (86, C86), (97, C97)] rfl ⟨pc56, pc86, pc97, trivial⟩) ⟨Try.f59, Try.func59, by kernel_rfl, by kernel_rfl⟩ fun x y h => w59 h

abbrev G83 (g : Cfg) : Prop := Has Try.prog g 83 Try.f83 [] [(2, { hd := [0, 1, 7, 8], bx := [], ex := [], rt := [4] })] [] []
set_option maxHeartbeats 4000000 in
set_option maxRecDepth 100000 in
theorem wI83 {g : Cfg} (G : G83 g) {d : Nat} {mem : Mem} (hT : Tight d mem)  {s : (List TEdge)} {f_ : (TEdge → Option (Bool))} {m_0 : Md} (hm_0 : LentM m_0) {fk_f_ : Nat} {caps_f_ : List (Key × Nat)} (hl_f_ : ∀ c ∈ caps_f_, c.1.1 ≤ d) (hc_f_ : Clo g d mem fk_f_ caps_f_ fun x : TEdge × Unit => f_ x.1) {y} (hp : slices_IndexFunc_Edge s f_ = some y) : callo g d 83 [av m_0 s, .one (.fn fk_f_ caps_f_)] mem = some (Res.res y, mem) := by
  have gP := G.P; have gt := G.tk; have gr := G.ro; have gg := G.gh
  have k_2 := G.kp (2, { hd := [0, 1, 7, 8], bx := [], ex := [], rt := [4] }) (by simp)
  have hT2 : memKill (fun k => decide (d < k.1)) mem = mem := hT
  refine start_in (Try.f83.body.getD .skip) [.tmp 4] G Try.func83 (by kernel_rfl) (by simp [Try.ntmps83]) rfl ?_
  unfold slices_IndexFunc_Edge at hp
  simp [Try.f83, gP, gt, gr, gg, hm_0.copy, hm_0.elem]
  obtain ⟨r_20, h_21, hp⟩ := bind_some hp
  obtain ⟨I_3, I_3_⟩ : ∃ I : Int → St → Prop, I = (fun (s_1 : Int) (σ : St) => σ.env 0 = .one (.l m_0 s.length (encL s)) ∧ σ.env 1 = .one (.fn fk_f_ caps_f_) ∧ σ.env 7 = .one (.s (.int .i64 (s.length : Int))) ∧ σ.env 8 = .one (.s (.int .i64 s_1)) ∧ σ.mem = mem) := ⟨_, rfl⟩
  obtain ⟨X_4, X_4_⟩ : ∃ X : ((Int) ⊕ (Unit)) → Out → Prop, X = (fun (r_20 : (Int) ⊕ (Unit)) (out : Out) => Sum.elim (fun r_20 => ∃ σ : St, out = .ret σ ∧ σ.env 4 = .one (.s (.int .i64 r_20)) ∧ σ.mem = mem) (fun r_20 => ∃ σ : St, out = .exit 0 σ ∧ σ.mem = mem) r_20) := ⟨_, rfl⟩
  refine loopP ({ hd := [0, 1, 7, 8], bx := [], ex := [], rt := [4] }) I_3 X_4 h_21 (by exact k_2) ?_ ?_ ?_
  · rw [I_3_]
    refine ⟨?_, by simp [restrict_env, gP, gt, gr, gg, hm_0.copy, hm_0.elem] <;> first | (intro x x1 x2 hx; have h0 := hl_f_ _ hx; simp at h0; omega) | (intro x hx; have h0 := hl_f_ _ hx; simp at h0; omega), ?_, ?_, ?_⟩ <;> simp [restrict_env, restrict_mem, gP, gt, gr, gg, hm_0.copy, hm_0.elem]
  · intro s_1 σ_5 a_2 hI hp
    rw [I_3_] at hI
    obtain ⟨q_6, q_7, q_8, q_9, q_10⟩ := hI
    try simp [gP, gt, gr, gg, hm_0.copy, hm_0.elem, q_6, q_7, q_8, q_9, q_10]
    rcases cond_cases hp with ⟨h_11, hp⟩ | ⟨h_11, hp⟩
    · try simp at h_11
      obtain ⟨e_12, h_13, hp⟩ := bind_some hp
      have b_14 := at_lo h_13
      have b_15 := at_hi h_13
      try simp at b_14
      try simp at b_15
      have c_16 := seg_at' h_13 0 5 (by decide) (ds := [.sc (.int .i64 e_12.from_), .sc (.int .i64 e_12.to_), .sc (.int .i64 e_12.stmt.kind), .sc (.string e_12.stmt.a), .sc (.string e_12.stmt.b)]) rfl
      try simp at c_16
      obtain ⟨y_17, h_18, hp⟩ := bind_some hp
      try simp [gP, gt, gr, gg, hm_0.copy, hm_0.elem, q_6, q_7, q_8, q_9, q_10, h_11, b_14, b_15, c_16]
      refine goal_call ([av .shr e_12] ++ capsAV caps_f_) (Res.res y_17) (by simp [capsAV, gP, gt, gr, gg, hm_0.copy, hm_0.elem, q_6, q_7, q_8, q_9, q_10, h_11]) (hc_f_ _ _ _ (e_12, ()) _ (Nat.le_succ d) (fun k hk => by first | rfl | rw [q_10]) (by repeat (first | exact tight_mem0 _ | exact hT.up | exact hT | (simp only [q_6, q_7, q_8, q_9, q_10]; done) | refine Tight.upd ?_ (by simp) (by simp))) ⟨_, _, (.inl rfl), rfl, rfl⟩ h_18) ?_
      try simp [gP, gt, gr, gg, hm_0.copy, hm_0.elem, q_6, q_7, q_8, q_9, q_10, h_11]
      rcases cond_cases hp with ⟨h_19, hp⟩ | ⟨h_19, hp⟩
      · try simp at h_19
        cases hp
        try simp [gP, gt, gr, gg, hm_0.copy, hm_0.elem, q_6, q_7, q_8, q_9, q_10, h_11, h_19]
        refine goal_outR ?_
        rw [X_4_]
        refine ⟨_, rfl, ?_, ?_⟩ <;> simp [restrict_env, restrict_mem, gP, gt, gr, gg, hm_0.copy, hm_0.elem, q_6, q_7, q_8, q_9, q_10, h_11, h_19]
      · try simp at h_19
        cases hp
        try simp [gP, gt, gr, gg, hm_0.copy, hm_0.elem, q_6, q_7, q_8, q_9, q_10, h_11, h_19]
        refine goal_next ?_
        rw [I_3_]
        refine ⟨?_, by simp [restrict_env, gP, gt, gr, gg, hm_0.copy, hm_0.elem, q_6, q_7, q_8, q_9, q_10, h_11, h_19] <;> first | (intro x x1 x2 hx; have h0 := hl_f_ _ hx; simp at h0; omega) | (intro x hx; have h0 := hl_f_ _ hx; simp at h0; omega), ?_, ?_, ?_⟩ <;> simp [restrict_env, restrict_mem, gP, gt, gr, gg, hm_0.copy, hm_0.elem, q_6, q_7, q_8, q_9, q_10, h_11, h_19]
    · try simp at h_11
      cases hp
      try simp [gP, gt, gr, gg, hm_0.copy, hm_0.elem, q_6, q_7, q_8, q_9, q_10, h_11]
      refine goal_outX ?_
      rw [X_4_]
      exact ⟨_, rfl, by simp [restrict_mem, gP, gt, gr, gg, hm_0.copy, hm_0.elem, q_6, q_7, q_8, q_9, q_10, h_11]⟩
  · intro out hX
    rw [X_4_] at hX
    rcases r_20 with r_20 | r_20
    · simp only [Sum.elim_inl, Sum.elim_inr] at hX hp
      obtain ⟨σ_22, rfl, q_23, q_24⟩ := hX
      cases hp
      simp [Goal, FnEndI, memKill_hi, gP, gt, gr, gg, hm_0.copy, hm_0.elem, q_23, q_24, hT2]
    · simp only [Sum.elim_inl, Sum.elim_inr] at hX hp
      obtain ⟨σ_25, rfl, q_26⟩ := hX
      cases hp
      simp [Goal, FnEndI, memKill_hi, gP, gt, gr, gg, hm_0.copy, hm_0.elem, q_26, hT2]

abbrev G57 (g : Cfg) : Prop := Has Try.prog g 57 Try.f57 [] [] [] []
set_option maxHeartbeats 4000000 in
set_option maxRecDepth 100000 in
theorem wI57 {g : Cfg} (G : G57 g) (G_83 : G83 g) {d : Nat} {mem : Mem} (hT : Tight d mem)  {s : (List TEdge)} {f_ : (TEdge → Option (Bool))} {m_0 : Md} (hm_0 : LentM m_0) {fk_f_ : Nat} {caps_f_ : List (Key × Nat)} (hl_f_ : ∀ c ∈ caps_f_, c.1.1 ≤ d) (hc_f_ : Clo g d mem fk_f_ caps_f_ fun x : TEdge × Unit => f_ x.1) {y} (hp : slices_ContainsFunc_Edge s f_ = some y) : callo g d 57 [av m_0 s, .one (.fn fk_f_ caps_f_)] mem = some (Res.res y, mem) := by
  have gP := G.P; have gt := G.tk; have gr := G.ro; have gg := G.gh
  have i_83 := G_83.no
  have hT2 : memKill (fun k => decide (d < k.1)) mem = mem := hT
  refine start_in (Try.f57.body.getD .skip) [.tmp 4] G Try.func57 (by kernel_rfl) (by simp [Try.ntmps57]) rfl ?_
  unfold slices_ContainsFunc_Edge at hp
  obtain ⟨y_1, h_2, hp⟩ := bind_some hp
  simp [Try.f57, gP, gt, gr, gg, i_83, hm_0.copy, hm_0.elem]
  refine goal_call [av m_0 s, .one (.fn fk_f_ caps_f_)] (Res.res y_1) (by simp [gP, gt, gr, gg, i_83, hm_0.copy, hm_0.elem]) (wI83 G_83 (by repeat (first | exact tight_mem0 _ | exact hT.up | exact hT | (simp only [true_and]; done) | refine Tight.upd ?_ (by simp) (by simp))) hm_0 (fun c hc => Nat.le_succ_of_le (hl_f_ c hc)) (hc_f_.mono (Nat.le_succ d) (fun k hk => rfl)) h_2) ?_
  cases hp
  simp [Goal, FnEndI, memKill_hi, gP, gt, gr, gg, i_83, hm_0.copy, hm_0.elem, hT2]

abbrev G58 (g : Cfg) : Prop := Has Try.prog g 58 Try.f58 [] [] [(38, C38), (59, C59)] []
set_option maxHeartbeats 4000000 in
set_option maxRecDepth 100000 in
theorem wI58 {g : Cfg} (G : G58 g) {d : Nat} {mem : Mem} (hT : Tight d mem) {K_1 : Key} {e : TEdge} {c0 : TProgram} {mk_1 : Md} (hk_1 : K_1.1 ≤ d) (hb_1 : mem K_1 = some [(.l mk_1 c0.vars.length (encL c0.vars)), (.s (.int .i64 c0.points)), (.l mk_1 c0.edges.length (encL c0.edges))]) {y} (hp : impl_IsProgram_1 e c0 = some y) : callo g d 58 [av .shr e, .one (.ptr K_1 0)] mem = some (Res.res y, mem) := by
  have gP := G.P; have gt := G.tk; have gr := G.ro; have gg := G.gh
  have c_38 := G.cs (38, C38) (by simp)
  have c_59 := G.cs (59, C59) (by simp)
  have hT2 : memKill (fun k => decide (d < k.1)) mem = mem := hT
  have hm0 : ∀ t, mem (d + 1, t) = none := fun t => hT.none (by simp)
  have nk_1 : ∀ t, (K_1 = (d + 1, t)) = False := fun t => by simp; intro h; rw [h] at hk_1; simp at hk_1; omega
  refine start_in (Try.f58.body.getD .skip) [.tmp 3] G Try.func58 (by kernel_rfl) (by simp [Try.ntmps58]) rfl ?_
  unfold impl_IsProgram_1 at hp
  obtain ⟨y_1, h_2, hp⟩ := bind_some hp
  have c_3 := C38_eq h_2
  simp at c_3
  simp [Try.f58, gP, gt, gr, gg, hm0, c_38, hb_1, nk_1, c_3]
  rcases cond_cases hp with ⟨h_4, hp⟩ | ⟨h_4, hp⟩
  · try simp at h_4
    obtain ⟨y_5, h_6, hp⟩ := bind_some hp
    have c_7 := C38_eq h_6
    simp at c_7
    try simp [gP, gt, gr, gg, hm0, c_38, hb_1, nk_1, h_4, c_7]
    rcases cond_cases hp with ⟨h_8, hp⟩ | ⟨h_8, hp⟩
    · try simp at h_8
      obtain ⟨y_9, h_10, hp⟩ := bind_some hp
      have c_11 := C59_eq h_10
      simp at c_11
      cases hp
      simp [Goal, FnEndI, memKill_hi, gP, gt, gr, gg, hm0, c_38, c_59, hb_1, nk_1, h_4, h_8, c_11, hT2]
    · try simp at h_8
      cases hp
      simp [Goal, FnEndI, memKill_hi, gP, gt, gr, gg, hm0, c_38, c_59, hb_1, nk_1, h_4, h_8, hT2]
  · try simp at h_4
    cases hp
    simp [Goal, FnEndI, memKill_hi, gP, gt, gr, gg, hm0, c_38, c_59, hb_1, nk_1, h_4, hT2]

noncomputable def C35 : List AV → Option AV := specP (X := TProgram × Unit) fun x => impl_IsProgram x.1
theorem C35_eq {p_} {y} (h : impl_IsProgram p_ = some y) : C35 [av .shr p_] = some (Res.res y) := specP_eq (X := TProgram × Unit) (F := fun x => impl_IsProgram x.1) (x := (p_, ())) h
noncomputable def g35 : Cfg := { P := Try.prog, take := [], keep := [((83, 2), { hd := [0, 1, 7, 8], bx := [], ex := [], rt := [4] })], gho := [], ctx := [(38, C38), (56, C56), (59, C59)] }
@[simp] theorem g35_P : g35.P = Try.prog := rfl
@[simp] theorem g35_t : g35.take = [] := rfl
@[simp] theorem g35_g : g35.gho = [] := rfl
@[simp] theorem g35_r : g35.ro = [] := rfl
@[simp] theorem g35_w : g35.away = [] ∧ g35.give = [] ∧ g35.octx = [] := by rw [g35]; exact ⟨rfl, rfl, rfl⟩
@[simp] theorem g35_38 : lookN 38 g35.ctx = some C38 := rfl
@[simp] theorem g35_56 : lookN 56 g35.ctx = some C56 := rfl
@[simp] theorem g35_59 : lookN 59 g35.ctx = some C59 := rfl
@[simp] theorem g35_57 : lookN 57 g35.ctx = none := rfl
@[simp] theorem g35_83 : lookN 83 g35.ctx = none := rfl
@[simp] theorem g35_58 : lookN 58 g35.ctx = none := rfl
set_option maxHeartbeats 4000000 in
set_option maxRecDepth 100000 in
theorem w35 {p_} {y} (hp : impl_IsProgram p_ = some y) : ∃ m, callo g35 0 35 [av .shr p_] mem0 = some (Res.res y, m) := by
  have G_57 : G57 g35 := ⟨rfl, by kernel_rfl, rfl, fun t => by simp, noAway (fun t => by simp) (by simp) (fun t => by simp), by simp [lookN], fun i => by simp [lookK], by simp [g35, lookK], by simp⟩
  have G_83 : G83 g35 := ⟨rfl, by kernel_rfl, rfl, fun t => by simp, noAway (fun t => by simp) (by simp) (fun t => by simp), by simp [lookN], fun i => by simp [lookK], by simp [g35, lookK], by simp⟩
  have G_58 : G58 g35 := ⟨rfl, by kernel_rfl, rfl, fun t => by simp, noAway (fun t => by simp) (by simp) (fun t => by simp), by simp [lookN], fun i => by simp [lookK], by simp [g35, lookK], by simp⟩
  refine start_fn (Try.f35.body.getD .skip) [.tmp 2] rfl rfl Try.func35 (by kernel_rfl) (by kernel_rfl) (by simp [Try.ntmps35]) rfl ?_
  unfold impl_IsProgram at hp
  obtain ⟨y_1, h_2, hp⟩ := bind_some hp
  have c_3 := C56_eq h_2
  simp at c_3
  simp [Try.f35, c_3]
  rcases cond_cases hp with ⟨h_4, hp⟩ | ⟨h_4, hp⟩
  · try simp at h_4
    obtain ⟨y_5, h_6, hp⟩ := bind_some hp
    have c_7 := C38_eq h_6
    simp at c_7
    try simp [h_4, c_7]
    rcases cond_cases hp with ⟨h_8, hp⟩ | ⟨h_8, hp⟩
    · try simp at h_8
      try simp [h_4, h_8]
      rcases cond_cases hp with ⟨h_9, hp⟩ | ⟨h_9, hp⟩
      · try simp at h_9
        cases hp
        simp [Goal, FnEnd, h_4, h_8, h_9]
      · try simp at h_9
        obtain ⟨y_10, h_11, hp⟩ := bind_some hp
        try simp [h_4, h_8, h_9]
        refine goal_call [av .shr p_.edges, .one (.fn 58 [((1, 1), 0)])] (Res.res y_10) (by simp [h_4, h_8, h_9]) (wI57 G_57 G_83 (by repeat (first | exact tight_mem0 _ | exact hT.up | exact hT | (simp only [true_and]; done) | refine Tight.upd ?_ (by simp) (by simp))) (.inl rfl) (by simp) (clo1 (p := fun x0 => impl_IsProgram_1 x0 p_) fun d2 mem2 m0 x0 r2 hd2 ha2 hT2 hm0 hr2 => wI58 (mk_1 := .shr) G_58 hT2 (show 1 ≤ d2 from hd2) ((ha2 _ (Nat.le_refl _)).trans (by simp [h_4, h_8, h_9])) hr2) h_11) ?_
        cases hp
        simp [Goal, FnEnd, h_4, h_8, h_9]
    · try simp at h_8
      cases hp
      simp [Goal, FnEnd, h_4, h_8]
  · try simp at h_4
    cases hp
    simp [Goal, FnEnd, h_4]
theorem pc35 : PC Try.prog 35 C35 := pc_of (g := g35) (ctxOK_of [(38, C38), (56, C56), (59, C59)] rfl ⟨pc38, pc56, pc59, trivial⟩) ⟨Try.f35, Try.func35, by kernel_rfl, by kernel_rfl⟩ fun x y h => w35 h

noncomputable def C90 : List AV → Option AV := specP (X := THeap × Int × Unit) fun x => impl_Heap_isCell x.1 x.2.1
theorem C90_eq {h_ n_} {y} (h : impl_Heap_isCell h_ n_ = some y) : C90 [av .shr h_, av .shr n_] = some (Res.res y) := specP_eq (X := THeap × Int × Unit) (F := fun x => impl_Heap_isCell x.1 x.2.1) (x := (h_, n_, ())) h
noncomputable def g90 : Cfg := { P := Try.prog, take := [], keep := [], gho := [], ctx := [(38, C38)] }
@[simp] theorem g90_P : g90.P = Try.prog := rfl
@[simp] theorem g90_t : g90.take = [] := rfl
@[simp] theorem g90_g : g90.gho = [] := rfl
@[simp] theorem g90_r : g90.ro = [] := rfl
@[simp] theorem g90_w : g90.away = [] ∧ g90.give = [] ∧ g90.octx = [] := by rw [g90]; exact ⟨rfl, rfl, rfl⟩
@[simp] theorem g90_38 : lookN 38 g90.ctx = some C38 := rfl
set_option maxHeartbeats 4000000 in
set_option maxRecDepth 100000 in
theorem w90 {h_ n_} {y} (hp : impl_Heap_isCell h_ n_ = some y) : ∃ m, callo g90 0 90 [av .shr h_, av .shr n_] mem0 = some (Res.res y, m) := by
  refine start_fn (Try.f90.body.getD .skip) [.tmp 4] rfl rfl Try.func90 (by kernel_rfl) (by kernel_rfl) (by simp [Try.ntmps90]) rfl ?_
  unfold impl_Heap_isCell at hp
  obtain ⟨y_1, h_2, hp⟩ := bind_some hp
  have c_3 := C38_eq h_2
  simp at c_3
  cases hp
  simp [Try.f90, Goal, FnEnd, c_3]
theorem pc90 : PC Try.prog 90 C90 := pc_of (g := g90) (ctxOK_of [(38, C38)] rfl ⟨pc38, trivial⟩) ⟨Try.f90, Try.func90, by kernel_rfl, by kernel_rfl⟩ fun x y h => w90 h

abbrev G98 (g : Cfg) : Prop := Has Try.prog g 98 Try.f98 [] [(2, { hd := [0, 1, 7, 8], bx := [], ex := [], rt := [4] })] [] []
set_option maxHeartbeats 4000000 in
set_option maxRecDepth 100000 in
theorem wI98 {g : Cfg} (G : G98 g) {d : Nat} {mem : Mem} (hT : Tight d mem)  {s : (List Int)} {f_ : (Int → Option (Bool))} {m_0 : Md} (hm_0 : LentM m_0) {fk_f_ : Nat} {caps_f_ : List (Key × Nat)} (hl_f_ : ∀ c ∈ caps_f_, c.1.1 ≤ d) (hc_f_ : Clo g d mem fk_f_ caps_f_ fun x : Int × Unit => f_ x.1) {y} (hp : slices_IndexFunc_int s f_ = some y) : callo g d 98 [av m_0 s, .one (.fn fk_f_ caps_f_)] mem = some (Res.res y, mem) := by
  have gP := G.P; have gt := G.tk; have gr := G.ro; have gg := G.gh
  have k_2 := G.kp (2, { hd := [0, 1, 7, 8], bx := [], ex := [], rt := [4] }) (by simp)
  have hT2 : memKill (fun k => decide (d < k.1)) mem = mem := hT
  refine start_in (Try.f98.body.getD .skip) [.tmp 4] G Try.func98 (by kernel_rfl) (by simp [Try.ntmps98]) rfl ?_
  unfold slices_IndexFunc_int at hp
  simp [Try.f98, gP, gt, gr, gg, hm_0.copy, hm_0.elem]
  obtain ⟨r_20, h_21, hp⟩ := bind_some hp
  obtain ⟨I_3, I_3_⟩ : ∃ I : Int → St → Prop, I = (fun (s_1 : Int) (σ : St) => σ.env 0 = .one (.l m_0 s.length (encL s)) ∧ σ.env 1 = .one (.fn fk_f_ caps_f_) ∧ σ.env 7 = .one (.s (.int .i64 (s.length : Int))) ∧ σ.env 8 = .one (.s (.int .i64 s_1)) ∧ σ.mem = mem) := ⟨_, rfl⟩
  obtain ⟨X_4, X_4_⟩ : ∃ X : ((Int) ⊕ (Unit)) → Out → Prop, X = (fun (r_20 : (Int) ⊕ (Unit)) (out : Out) => Sum.elim (fun r_20 => ∃ σ : St, out = .ret σ ∧ σ.env 4 = .one (.s (.int .i64 r_20)) ∧ σ.mem = mem) (fun r_20 => ∃ σ : St, out = .exit 0 σ ∧ σ.mem = mem) r_20) := ⟨_, rfl⟩
  refine loopP ({ hd := [0, 1, 7, 8], bx := [], ex := [], rt := [4] }) I_3 X_4 h_21 (by exact k_2) ?_ ?_ ?_
  · rw [I_3_]
    refine ⟨?_, by simp [restrict_env, gP, gt, gr, gg, hm_0.copy, hm_0.elem] <;> first | (intro x x1 x2 hx; have h0 := hl_f_ _ hx; simp at h0; omega) | (intro x hx; have h0 := hl_f_ _ hx; simp at h0; omega), ?_, ?_, ?_⟩ <;> simp [restrict_env, restrict_mem, gP, gt, gr, gg, hm_0.copy, hm_0.elem]
  · intro s_1 σ_5 a_2 hI hp
    rw [I_3_] at hI
    obtain ⟨q_6, q_7, q_8, q_9, q_10⟩ := hI
    try simp [gP, gt, gr, gg, hm_0.copy, hm_0.elem, q_6, q_7, q_8, q_9, q_10]
    rcases cond_cases hp with ⟨h_11, hp⟩ | ⟨h_11, hp⟩
    · try simp at h_11
      obtain ⟨e_12, h_13, hp⟩ := bind_some hp
      have b_14 := at_lo h_13
      have b_15 := at_hi h_13
      try simp at b_14
      try simp at b_15
      have c_16 := seg_at' h_13 0 1 (by decide) (ds := [.sc (.int .i64 e_12)]) rfl
      try simp at c_16
      obtain ⟨y_17, h_18, hp⟩ := bind_some hp
      try simp [gP, gt, gr, gg, hm_0.copy, hm_0.elem, q_6, q_7, q_8, q_9, q_10, h_11, b_14, b_15, c_16]
      refine goal_call ([av .shr e_12] ++ capsAV caps_f_) (Res.res y_17) (by simp [capsAV, gP, gt, gr, gg, hm_0.copy, hm_0.elem, q_6, q_7, q_8, q_9, q_10, h_11]) (hc_f_ _ _ _ (e_12, ()) _ (Nat.le_succ d) (fun k hk => by first | rfl | rw [q_10]) (by repeat (first | exact tight_mem0 _ | exact hT.up | exact hT | (simp only [q_6, q_7, q_8, q_9, q_10]; done) | refine Tight.upd ?_ (by simp) (by simp))) ⟨_, _, (.inl rfl), rfl, rfl⟩ h_18) ?_
      try simp [gP, gt, gr, gg, hm_0.copy, hm_0.elem, q_6, q_7, q_8, q_9, q_10, h_11]
      rcases cond_cases hp with ⟨h_19, hp⟩ | ⟨h_19, hp⟩
      · try simp at h_19
        cases hp
        try simp [gP, gt, gr, gg, hm_0.copy, hm_0.elem, q_6, q_7, q_8, q_9, q_10, h_11, h_19]
        refine goal_outR ?_
        rw [X_4_]
        refine ⟨_, rfl, ?_, ?_⟩ <;> simp [restrict_env, restrict_mem, gP, gt, gr, gg, hm_0.copy, hm_0.elem, q_6, q_7, q_8, q_9, q_10, h_11, h_19]
      · try simp at h_19
        cases hp
        try simp [gP, gt, gr, gg, hm_0.copy, hm_0.elem, q_6, q_7, q_8, q_9, q_10, h_11, h_19]
        refine goal_next ?_
        rw [I_3_]
        refine ⟨?_, by simp [restrict_env, gP, gt, gr, gg, hm_0.copy, hm_0.elem, q_6, q_7, q_8, q_9, q_10, h_11, h_19] <;> first | (intro x x1 x2 hx; have h0 := hl_f_ _ hx; simp at h0; omega) | (intro x hx; have h0 := hl_f_ _ hx; simp at h0; omega), ?_, ?_, ?_⟩ <;> simp [restrict_env, restrict_mem, gP, gt, gr, gg, hm_0.copy, hm_0.elem, q_6, q_7, q_8, q_9, q_10, h_11, h_19]
    · try simp at h_11
      cases hp
      try simp [gP, gt, gr, gg, hm_0.copy, hm_0.elem, q_6, q_7, q_8, q_9, q_10, h_11]
      refine goal_outX ?_
      rw [X_4_]
      exact ⟨_, rfl, by simp [restrict_mem, gP, gt, gr, gg, hm_0.copy, hm_0.elem, q_6, q_7, q_8, q_9, q_10, h_11]⟩
  · intro out hX
    rw [X_4_] at hX
    rcases r_20 with r_20 | r_20
    · simp only [Sum.elim_inl, Sum.elim_inr] at hX hp
      obtain ⟨σ_22, rfl, q_23, q_24⟩ := hX
      cases hp
      simp [Goal, FnEndI, memKill_hi, gP, gt, gr, gg, hm_0.copy, hm_0.elem, q_23, q_24, hT2]
    · simp only [Sum.elim_inl, Sum.elim_inr] at hX hp
      obtain ⟨σ_25, rfl, q_26⟩ := hX
      cases hp
      simp [Goal, FnEndI, memKill_hi, gP, gt, gr, gg, hm_0.copy, hm_0.elem, q_26, hT2]

abbrev G87 (g : Cfg) : Prop := Has Try.prog g 87 Try.f87 [] [] [] []
set_option maxHeartbeats 4000000 in
set_option maxRecDepth 100000 in
theorem wI87 {g : Cfg} (G : G87 g) (G_98 : G98 g) {d : Nat} {mem : Mem} (hT : Tight d mem)  {s : (List Int)} {f_ : (Int → Option (Bool))} {m_0 : Md} (hm_0 : LentM m_0) {fk_f_ : Nat} {caps_f_ : List (Key × Nat)} (hl_f_ : ∀ c ∈ caps_f_, c.1.1 ≤ d) (hc_f_ : Clo g d mem fk_f_ caps_f_ fun x : Int × Unit => f_ x.1) {y} (hp : slices_ContainsFunc_int s f_ = some y) : callo g d 87 [av m_0 s, .one (.fn fk_f_ caps_f_)] mem = some (Res.res y, mem) := by
  have gP := G.P; have gt := G.tk; have gr := G.ro; have gg := G.gh
  have i_98 := G_98.no
  have hT2 : memKill (fun k => decide (d < k.1)) mem = mem := hT
  refine start_in (Try.f87.body.getD .skip) [.tmp 4] G Try.func87 (by kernel_rfl) (by simp [Try.ntmps87]) rfl ?_
  unfold slices_ContainsFunc_int at hp
  obtain ⟨y_1, h_2, hp⟩ := bind_some hp
  simp [Try.f87, gP, gt, gr, gg, i_98, hm_0.copy, hm_0.elem]
  refine goal_call [av m_0 s, .one (.fn fk_f_ caps_f_)] (Res.res y_1) (by simp [gP, gt, gr, gg, i_98, hm_0.copy, hm_0.elem]) (wI98 G_98 (by repeat (first | exact tight_mem0 _ | exact hT.up | exact hT | (simp only [true_and]; done) | refine Tight.upd ?_ (by simp) (by simp))) hm_0 (fun c hc => Nat.le_succ_of_le (hl_f_ c hc)) (hc_f_.mono (Nat.le_succ d) (fun k hk => rfl)) h_2) ?_
  cases hp
  simp [Goal, FnEndI, memKill_hi, gP, gt, gr, gg, i_98, hm_0.copy, hm_0.elem, hT2]

abbrev G89 (g : Cfg) : Prop := Has Try.prog g 89 Try.f89 [] [] [(90, C90)] []
set_option maxHeartbeats 4000000 in
set_option maxRecDepth 100000 in
theorem wI89 {g : Cfg} (G : G89 g) {d : Nat} {mem : Mem} (hT : Tight d mem) {K_1 : Key} {n_ : Int} {c0 : THeap} {mk_1 : Md} (hk_1 : K_1.1 ≤ d) (hb_1 : mem K_1 = some [(.l mk_1 c0.vars.length (encL c0.vars)), (.l mk_1 c0.next.length (encL c0.next))]) {y} (hp : impl_Heap_areCells_1 n_ c0 = some y) : callo g d 89 [av .shr n_, .one (.ptr K_1 0)] mem = some (Res.res y, mem) := by
  have gP := G.P; have gt := G.tk; have gr := G.ro; have gg := G.gh
  have c_90 := G.cs (90, C90) (by simp)
  have hT2 : memKill (fun k => decide (d < k.1)) mem = mem := hT
  have nk_1 : ∀ t, (K_1 = (d + 1, t)) = False := fun t => by simp; intro h; rw [h] at hk_1; simp at hk_1; omega
  refine start_in (Try.f89.body.getD .skip) [.tmp 3] G Try.func89 (by kernel_rfl) (by simp [Try.ntmps89]) rfl ?_
  unfold impl_Heap_areCells_1 at hp
  simp [Try.f89, gP, gt, gr, gg, hb_1, nk_1]
  rcases cond_cases hp with ⟨h_1, hp⟩ | ⟨h_1, hp⟩
  · try simp at h_1
    obtain ⟨y_2, h_3, hp⟩ := bind_some hp
    have c_4 := C90_eq h_3
    simp at c_4
    cases hp
    simp [Goal, FnEndI, memKill_hi, gP, gt, gr, gg, c_90, hb_1, nk_1, h_1, c_4, hT2]
  · try simp at h_1
    cases hp
    simp [Goal, FnEndI, memKill_hi, gP, gt, gr, gg, c_90, hb_1, nk_1, h_1, hT2]

noncomputable def C60 : List AV → Option AV := specP (X := THeap × Unit) fun x => impl_Heap_areCells x.1
theorem C60_eq {h_} {y} (h : impl_Heap_areCells h_ = some y) : C60 [av .shr h_] = some (Res.res y) := specP_eq (X := THeap × Unit) (F := fun x => impl_Heap_areCells x.1) (x := (h_, ())) h
noncomputable def g60 : Cfg := { P := Try.prog, take := [], keep := [((98, 2), { hd := [0, 1, 7, 8], bx := [], ex := [], rt := [4] })], gho := [], ctx := [(88, C88), (90, C90)] }
@[simp] theorem g60_P : g60.P = Try.prog := rfl
@[simp] theorem g60_t : g60.take = [] := rfl
@[simp] theorem g60_g : g60.gho = [] := rfl
@[simp] theorem g60_r : g60.ro = [] := rfl
@[simp] theorem g60_w : g60.away = [] ∧ g60.give = [] ∧ g60.octx = [] := by rw [g60]; exact ⟨rfl, rfl, rfl⟩
@[simp] theorem g60_88 : lookN 88 g60.ctx = some C88 := rfl
@[simp] theorem g60_90 : lookN 90 g60.ctx = some C90 := rfl
@[simp] theorem g60_87 : lookN 87 g60.ctx = none := rfl
@[simp] theorem g60_98 : lookN 98 g60.ctx = none := rfl
@[simp] theorem g60_89 : lookN 89 g60.ctx = none := rfl
set_option maxHeartbeats 4000000 in
set_option maxRecDepth 100000 in
theorem w60 {h_} {y} (hp : impl_Heap_areCells h_ = some y) : ∃ m, callo g60 0 60 [av .shr h_] mem0 = some (Res.res y, m) := by
  have G_87 : G87 g60 := ⟨rfl, by kernel_rfl, rfl, fun t => by simp, noAway (fun t => by simp) (by simp) (fun t => by simp), by simp [lookN], fun i => by simp [lookK], by simp [g60, lookK], by simp⟩
  have G_98 : G98 g60 := ⟨rfl, by kernel_rfl, rfl, fun t => by simp, noAway (fun t => by simp) (by simp) (fun t => by simp), by simp [lookN], fun i => by simp [lookK], by simp [g60, lookK], by simp⟩
  have G_89 : G89 g60 := ⟨rfl, by kernel_rfl, rfl, fun t => by simp, noAway (fun t => by simp) (by simp) (fun t => by simp), by simp [lookN], fun i => by simp [lookK], by simp [g60, lookK], by simp⟩
  refine start_fn (Try.f60.body.getD .skip) [.tmp 2] rfl rfl Try.func60 (by kernel_rfl) (by kernel_rfl) (by simp [Try.ntmps60]) rfl ?_
  unfold impl_Heap_areCells at hp
  obtain ⟨y_1, h_2, hp⟩ := bind_some hp
  have c_3 := C88_eq h_2
  simp at c_3
  obtain ⟨y_4, h_5, hp⟩ := bind_some hp
  simp [Try.f60, c_3]
  refine goal_call [av .bor y_1, .one (.fn 89 [((1, 1), 0)])] (Res.res y_4) (by simp) (wI87 G_87 G_98 (by repeat (first | exact tight_mem0 _ | exact hT.up | exact hT | (simp only [true_and]; done) | refine Tight.upd ?_ (by simp) (by simp))) (.inr rfl) (by simp) (clo1 (p := fun x0 => impl_Heap_areCells_1 x0 h_) fun d2 mem2 m0 x0 r2 hd2 ha2 hT2 hm0 hr2 => wI89 (mk_1 := .shr) G_89 hT2 (show 1 ≤ d2 from hd2) ((ha2 _ (Nat.le_refl _)).trans (by simp [c_3])) hr2) h_5) ?_
  cases hp
  simp [Goal, FnEnd]
theorem pc60 : PC Try.prog 60 C60 := pc_of (g := g60) (ctxOK_of [(88, C88), (90, C90)] rfl ⟨pc88, pc90, trivial⟩) ⟨Try.f60, Try.func60, by kernel_rfl, by kernel_rfl⟩ fun x y h => w60 h

noncomputable def C92 : List AV → Option AV := specP (X := (List Int) × Int × Unit) fun x => slices_Index_int x.1 x.2.1
theorem C92_eq {s v} {y} (h : slices_Index_int s v = some y) : C92 [av .shr s, av .shr v] = some (Res.res y) := specP_eq (X := (List Int) × Int × Unit) (F := fun x => slices_Index_int x.1 x.2.1) (x := (s, v, ())) h
noncomputable def g92 : Cfg := { P := Try.prog, take := [], keep := [((92, 2), { hd := [0, 1, 7, 8], bx := [], ex := [], rt := [4] })], gho := [], ctx := [] }
@[simp] theorem g92_P : g92.P = Try.prog := rfl
@[simp] theorem g92_t : g92.take = [] := rfl
@[simp] theorem g92_g : g92.gho = [] := rfl
@[simp] theorem g92_r : g92.ro = [] := rfl
@[simp] theorem g92_w : g92.away = [] ∧ g92.give = [] ∧ g92.octx = [] := by rw [g92]; exact ⟨rfl, rfl, rfl⟩
set_option maxHeartbeats 4000000 in
set_option maxRecDepth 100000 in
theorem w92 {s v} {y} (hp : slices_Index_int s v = some y) : ∃ m, callo g92 0 92 [av .shr s, av .shr v] mem0 = some (Res.res y, m) := by
  refine start_fn (Try.f92.body.getD .skip) [.tmp 4] rfl rfl Try.func92 (by kernel_rfl) (by kernel_rfl) (by simp [Try.ntmps92]) rfl ?_
  unfold slices_Index_int at hp
  simp [Try.f92]
  obtain ⟨r_18, h_19, hp⟩ := bind_some hp
  obtain ⟨I_3, I_3_⟩ : ∃ I : Int → St → Prop, I = (fun (s_1 : Int) (σ : St) => σ.env 0 = .one (.l .shr s.length (encL s)) ∧ σ.env 1 = .one (.s (.int .i64 v)) ∧ σ.env 7 = .one (.s (.int .i64 (s.length : Int))) ∧ σ.env 8 = .one (.s (.int .i64 s_1)) ∧ σ.mem = mem0) := ⟨_, rfl⟩
  obtain ⟨X_4, X_4_⟩ : ∃ X : ((Int) ⊕ (Unit)) → Out → Prop, X = (fun (r_18 : (Int) ⊕ (Unit)) (out : Out) => Sum.elim (fun r_18 => ∃ σ : St, out = .ret σ ∧ σ.env 4 = .one (.s (.int .i64 r_18)) ∧ σ.mem = mem0) (fun r_18 => ∃ σ : St, out = .exit 0 σ ∧ σ.mem = mem0) r_18) := ⟨_, rfl⟩
  refine loopP ({ hd := [0, 1, 7, 8], bx := [], ex := [], rt := [4] }) I_3 X_4 h_19 (by exact rfl) ?_ ?_ ?_
  · rw [I_3_]
    refine ⟨?_, ?_, ?_, ?_, ?_⟩ <;> simp [restrict_env, restrict_mem]
  · intro s_1 σ_5 a_2 hI hp
    rw [I_3_] at hI
    obtain ⟨q_6, q_7, q_8, q_9, q_10⟩ := hI
    try simp [q_6, q_7, q_8, q_9, q_10]
    rcases cond_cases hp with ⟨h_11, hp⟩ | ⟨h_11, hp⟩
    · try simp at h_11
      obtain ⟨e_12, h_13, hp⟩ := bind_some hp
      have b_14 := at_lo h_13
      have b_15 := at_hi h_13
      try simp at b_14
      try simp at b_15
      have c_16 := seg_at' h_13 0 1 (by decide) (ds := [.sc (.int .i64 e_12)]) rfl
      try simp at c_16
      try simp [q_6, q_7, q_8, q_9, q_10, h_11, b_14, b_15, c_16]
      rcases cond_cases hp with ⟨h_17, hp⟩ | ⟨h_17, hp⟩
      · try simp at h_17
        cases hp
        try simp [q_6, q_7, q_8, q_9, q_10, h_11, h_17]
        refine goal_outR ?_
        rw [X_4_]
        refine ⟨_, rfl, ?_, ?_⟩ <;> simp [restrict_env, restrict_mem, q_6, q_7, q_8, q_9, q_10, h_11, h_17]
      · try simp at h_17
        cases hp
        try simp [q_6, q_7, q_8, q_9, q_10, h_11, h_17]
        refine goal_next ?_
        rw [I_3_]
        refine ⟨?_, ?_, ?_, ?_, ?_⟩ <;> simp [restrict_env, restrict_mem, q_6, q_7, q_8, q_9, q_10, h_11, h_17]
    · try simp at h_11
      cases hp
      try simp [q_6, q_7, q_8, q_9, q_10, h_11]
      refine goal_outX ?_
      rw [X_4_]
      exact ⟨_, rfl, by simp [restrict_mem, q_6, q_7, q_8, q_9, q_10, h_11]⟩
  · intro out hX
    rw [X_4_] at hX
    rcases r_18 with r_18 | r_18
    · simp only [Sum.elim_inl, Sum.elim_inr] at hX hp
      obtain ⟨σ_20, rfl, q_21, q_22⟩ := hX
      cases hp
      simp [Goal, FnEnd, q_21, q_22]
    · simp only [Sum.elim_inl, Sum.elim_inr] at hX hp
      obtain ⟨σ_23, rfl, q_24⟩ := hX
      cases hp
      simp [Goal, FnEnd, q_24]
theorem pc92 : PC Try.prog 92 C92 := pc_of (g := g92) (ctxOK_of [] rfl trivial) ⟨Try.f92, Try.func92, by kernel_rfl, by kernel_rfl⟩ fun x y h => w92 h

noncomputable def C70 : List AV → Option AV := specP (X := (List Int) × Int × Unit) fun x => slices_Contains_int x.1 x.2.1
theorem C70_eq {s v} {y} (h : slices_Contains_int s v = some y) : C70 [av .shr s, av .shr v] = some (Res.res y) := specP_eq (X := (List Int) × Int × Unit) (F := fun x => slices_Contains_int x.1 x.2.1) (x := (s, v, ())) h
noncomputable def g70 : Cfg := { P := Try.prog, take := [], keep := [], gho := [], ctx := [(92, C92)] }
@[simp] theorem g70_P : g70.P = Try.prog := rfl
@[simp] theorem g70_t : g70.take = [] := rfl
@[simp] theorem g70_g : g70.gho = [] := rfl
@[simp] theorem g70_r : g70.ro = [] := rfl
@[simp] theorem g70_w : g70.away = [] ∧ g70.give = [] ∧ g70.octx = [] := by rw [g70]; exact ⟨rfl, rfl, rfl⟩
@[simp] theorem g70_92 : lookN 92 g70.ctx = some C92 := rfl
set_option maxHeartbeats 4000000 in
set_option maxRecDepth 100000 in
theorem w70 {s v} {y} (hp : slices_Contains_int s v = some y) : ∃ m, callo g70 0 70 [av .shr s, av .shr v] mem0 = some (Res.res y, m) := by
  refine start_fn (Try.f70.body.getD .skip) [.tmp 4] rfl rfl Try.func70 (by kernel_rfl) (by kernel_rfl) (by simp [Try.ntmps70]) rfl ?_
  unfold slices_Contains_int at hp
  obtain ⟨y_1, h_2, hp⟩ := bind_some hp
  have c_3 := C92_eq h_2
  simp at c_3
  cases hp
  simp [Try.f70, Goal, FnEnd, c_3]
theorem pc70 : PC Try.prog 70 C70 := pc_of (g := g70) (ctxOK_of [(92, C92)] rfl ⟨pc92, trivial⟩) ⟨Try.f70, Try.func70, by kernel_rfl, by kernel_rfl⟩ fun x y h => w70 h
end Go.Proofs

