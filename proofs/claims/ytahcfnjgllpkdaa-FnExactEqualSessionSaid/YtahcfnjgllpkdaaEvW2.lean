import Derived.Test.YtahcfnjgllpkdaaEvW1
set_option linter.unusedSimpArgs false
set_option linter.unusedVariables false
set_option linter.unnecessarySimpa false
namespace Go.Proofs
open Go.Ev
noncomputable def C53 : List AV → Option AV := specP (X := THeap × THeap × Unit) fun x => laws_eqHeap x.1 x.2.1
theorem C53_eq {a_ b} {y} (h : laws_eqHeap a_ b = some y) : C53 [av .shr a_, av .shr b] = some (Res.res y) := specP_eq (X := THeap × THeap × Unit) (F := fun x => laws_eqHeap x.1 x.2.1) (x := (a_, b, ())) h
noncomputable def g53 : Cfg := { P := Try.prog, take := [], keep := [], gho := [], ctx := [(85, C85)] }
@[simp] theorem g53_P : g53.P = Try.prog := rfl
@[simp] theorem g53_t : g53.take = [] := rfl
@[simp] theorem g53_g : g53.gho = [] := rfl
@[simp] theorem g53_85 : lookN 85 g53.ctx = some C85 := rfl
set_option maxRecDepth 100000 in
theorem w53 {a_ b} {y} (hp : laws_eqHeap a_ b = some y) : ∃ m, callo g53 0 53 [av .shr a_, av .shr b] mem0 = some (Res.res y, m) := by
  refine start_fn (Try.f53.body.getD .skip) [.tmp 4] rfl rfl Try.func53 (by kernel_rfl) (by kernel_rfl) (by simp [Try.ntmps53]) rfl ?_
  unfold laws_eqHeap at hp
  obtain ⟨y_1, h_2, hp⟩ := bind_some hp
  have c_3 := C85_eq h_2
  simp at c_3
  simp [Try.f53, c_3]
  rcases cond_cases hp with ⟨h_4, hp⟩ | ⟨h_4, hp⟩
  · try simp at h_4
    obtain ⟨y_5, h_6, hp⟩ := bind_some hp
    have c_7 := C85_eq h_6
    simp at c_7
    try simp [h_4, c_7]
    rcases cond_cases hp with ⟨h_8, hp⟩ | ⟨h_8, hp⟩
    · try simp at h_8
      cases hp
      simp [Goal, FnEnd, h_4, h_8]
    · try simp at h_8
      cases hp
      simp [Goal, FnEnd, h_4, h_8]
  · try simp at h_4
    cases hp
    simp [Goal, FnEnd, h_4]
theorem pc53 : PC Try.prog 53 C53 := pc_of (g := g53) (ctxOK_of [(85, C85)] rfl ⟨pc85, trivial⟩) ⟨Try.f53, Try.func53, by kernel_rfl, by kernel_rfl⟩ fun x y h => w53 h

noncomputable def C11 : List AV → Option AV := specP (X := (List THeap) × (List THeap) × Unit) fun x => laws_eqHeapS x.1 x.2.1
theorem C11_eq {a_ b} {y} (h : laws_eqHeapS a_ b = some y) : C11 [av .shr a_, av .shr b] = some (Res.res y) := specP_eq (X := (List THeap) × (List THeap) × Unit) (F := fun x => laws_eqHeapS x.1 x.2.1) (x := (a_, b, ())) h
noncomputable def g11 : Cfg := { P := Try.prog, take := [], keep := [((11, 4), { hd := [0, 1, 5], bx := [], ex := [], rt := [4] })], gho := [], ctx := [(53, C53)] }
@[simp] theorem g11_P : g11.P = Try.prog := rfl
@[simp] theorem g11_t : g11.take = [] := rfl
@[simp] theorem g11_g : g11.gho = [] := rfl
@[simp] theorem g11_53 : lookN 53 g11.ctx = some C53 := rfl
set_option maxRecDepth 100000 in
theorem w11 {a_ b} {y} (hp : laws_eqHeapS a_ b = some y) : ∃ m, callo g11 0 11 [av .shr a_, av .shr b] mem0 = some (Res.res y, m) := by
  refine start_fn (Try.f11.body.getD .skip) [.tmp 4] rfl rfl Try.func11 (by kernel_rfl) (by kernel_rfl) (by simp [Try.ntmps11]) rfl ?_
  unfold laws_eqHeapS at hp
  simp [Try.f11]
  rcases cond_cases hp with ⟨h_1, hp⟩ | ⟨h_1, hp⟩
  · try simp at h_1
    cases hp
    simp [Goal, FnEnd, h_1]
  · try simp at h_1
    try simp [h_1]
    obtain ⟨r_26, h_27, hp⟩ := bind_some hp
    obtain ⟨I_4, I_4_⟩ : ∃ I : Int → St → Prop, I = (fun (s_2 : Int) (σ : St) => σ.env 0 = .one (.l .shr a_.length (encL a_)) ∧ σ.env 1 = .one (.l .shr b.length (encL b)) ∧ σ.env 5 = .one (.s (.int .i64 s_2)) ∧ σ.mem = mem0) := ⟨_, rfl⟩
    obtain ⟨X_5, X_5_⟩ : ∃ X : ((Unit) ⊕ (Unit)) → Out → Prop, X = (fun (r_26 : (Unit) ⊕ (Unit)) (out : Out) => Sum.elim (fun r_26 => ∃ σ : St, out = .ret σ ∧ σ.env 4 = .one (.s (.bool false)) ∧ σ.mem = mem0) (fun r_26 => ∃ σ : St, out = .exit 0 σ ∧ σ.mem = mem0) r_26) := ⟨_, rfl⟩
    refine loopP ({ hd := [0, 1, 5], bx := [], ex := [], rt := [4] }) I_4 X_5 h_27 (by exact rfl) ?_ ?_ ?_
    · rw [I_4_]
      exact ⟨by simp [restrict_env, h_1], by simp [restrict_env, h_1], by simp [restrict_env, h_1], by simp [restrict_mem, h_1]⟩
    · intro s_2 σ_6 a_3 hI hp
      rw [I_4_] at hI
      obtain ⟨q_7, q_8, q_9, q_10⟩ := hI
      try simp [h_1, q_7, q_8, q_9, q_10]
      rcases cond_cases hp with ⟨h_11, hp⟩ | ⟨h_11, hp⟩
      · try simp at h_11
        obtain ⟨e_12, h_13, hp⟩ := bind_some hp
        have b_14 := at_lo h_13
        have b_15 := at_hi h_13
        try simp at b_14
        try simp at b_15
        have c_16 := seg_at' h_13 0 2 (by decide) (ds := [.sl e_12.vars.length (encL e_12.vars), .sl e_12.next.length (encL e_12.next)]) rfl
        try simp at c_16
        obtain ⟨e_17, h_18, hp⟩ := bind_some hp
        have b_19 := at_lo h_18
        have b_20 := at_hi h_18
        try simp at b_19
        try simp at b_20
        have c_21 := seg_at' h_18 0 2 (by decide) (ds := [.sl e_17.vars.length (encL e_17.vars), .sl e_17.next.length (encL e_17.next)]) rfl
        try simp at c_21
        obtain ⟨y_22, h_23, hp⟩ := bind_some hp
        have c_24 := C53_eq h_23
        simp at c_24
        try simp [h_1, q_7, q_8, q_9, q_10, h_11, b_14, b_15, c_16, b_19, b_20, c_21, c_24]
        rcases cond_cases hp with ⟨h_25, hp⟩ | ⟨h_25, hp⟩
        · try simp at h_25
          cases hp
          try simp [h_1, q_7, q_8, q_9, q_10, h_11, h_25]
          refine goal_next ?_
          rw [I_4_]
          exact ⟨by simp [restrict_env, h_1, q_7, q_8, q_9, q_10, h_11, h_25], by simp [restrict_env, h_1, q_7, q_8, q_9, q_10, h_11, h_25], by simp [restrict_env, h_1, q_7, q_8, q_9, q_10, h_11, h_25], by simp [restrict_mem, h_1, q_7, q_8, q_9, q_10, h_11, h_25]⟩
        · try simp at h_25
          cases hp
          try simp [h_1, q_7, q_8, q_9, q_10, h_11, h_25]
          refine goal_outR ?_
          rw [X_5_]
          exact ⟨_, rfl, by simp [restrict_env, h_1, q_7, q_8, q_9, q_10, h_11, h_25], by simp [restrict_mem, h_1, q_7, q_8, q_9, q_10, h_11, h_25]⟩
      · try simp at h_11
        cases hp
        try simp [h_1, q_7, q_8, q_9, q_10, h_11]
        refine goal_outX ?_
        rw [X_5_]
        exact ⟨_, rfl, by simp [restrict_mem, h_1, q_7, q_8, q_9, q_10, h_11]⟩
    · intro out hX
      rw [X_5_] at hX
      rcases r_26 with r_26 | r_26
      · simp only [Sum.elim_inl, Sum.elim_inr] at hX hp
        obtain ⟨σ_28, rfl, q_29, q_30⟩ := hX
        cases hp
        simp [Goal, FnEnd, h_1, q_29, q_30]
      · simp only [Sum.elim_inl, Sum.elim_inr] at hX hp
        obtain ⟨σ_31, rfl, q_32⟩ := hX
        cases hp
        simp [Goal, FnEnd, h_1, q_32]
theorem pc11 : PC Try.prog 11 C11 := pc_of (g := g11) (ctxOK_of [(53, C53)] rfl ⟨pc53, trivial⟩) ⟨Try.f11, Try.func11, by kernel_rfl, by kernel_rfl⟩ fun x y h => w11 h

noncomputable def C18 : List AV → Option AV := specP (X := TSession × TSession × Unit) fun x => laws_eqSession x.1 x.2.1
theorem C18_eq {a_ b} {y} (h : laws_eqSession a_ b = some y) : C18 [av .shr a_, av .shr b] = some (Res.res y) := specP_eq (X := TSession × TSession × Unit) (F := fun x => laws_eqSession x.1 x.2.1) (x := (a_, b, ())) h
noncomputable def g18 : Cfg := { P := Try.prog, take := [], keep := [], gho := [], ctx := [(11, C11), (65, C65)] }
@[simp] theorem g18_P : g18.P = Try.prog := rfl
@[simp] theorem g18_t : g18.take = [] := rfl
@[simp] theorem g18_g : g18.gho = [] := rfl
@[simp] theorem g18_11 : lookN 11 g18.ctx = some C11 := rfl
@[simp] theorem g18_65 : lookN 65 g18.ctx = some C65 := rfl
set_option maxRecDepth 100000 in
theorem w18 {a_ b} {y} (hp : laws_eqSession a_ b = some y) : ∃ m, callo g18 0 18 [av .shr a_, av .shr b] mem0 = some (Res.res y, m) := by
  refine start_fn (Try.f18.body.getD .skip) [.tmp 4] rfl rfl Try.func18 (by kernel_rfl) (by kernel_rfl) (by simp [Try.ntmps18]) rfl ?_
  unfold laws_eqSession at hp
  obtain ⟨y_1, h_2, hp⟩ := bind_some hp
  have c_3 := C65_eq h_2
  simp at c_3
  simp [Try.f18, c_3]
  rcases cond_cases hp with ⟨h_4, hp⟩ | ⟨h_4, hp⟩
  · try simp at h_4
    obtain ⟨y_5, h_6, hp⟩ := bind_some hp
    have c_7 := C11_eq h_6
    simp at c_7
    try simp [h_4, c_7]
    rcases cond_cases hp with ⟨h_8, hp⟩ | ⟨h_8, hp⟩
    · try simp at h_8
      cases hp
      simp [Goal, FnEnd, h_4, h_8]
    · try simp at h_8
      cases hp
      simp [Goal, FnEnd, h_4, h_8]
  · try simp at h_4
    cases hp
    simp [Goal, FnEnd, h_4]
theorem pc18 : PC Try.prog 18 C18 := pc_of (g := g18) (ctxOK_of [(11, C11), (65, C65)] rfl ⟨pc11, pc65, trivial⟩) ⟨Try.f18, Try.func18, by kernel_rfl, by kernel_rfl⟩ fun x y h => w18 h

noncomputable def C4 : List AV → Option AV := specP (X := TSession × TSession × Unit) fun x => laws_FnExactEqualSession x.1 x.2.1
theorem C4_eq {aA aB} {y} (h : laws_FnExactEqualSession aA aB = some y) : C4 [av .shr aA, av .shr aB] = some (Res.res y) := specP_eq (X := TSession × TSession × Unit) (F := fun x => laws_FnExactEqualSession x.1 x.2.1) (x := (aA, aB, ())) h
noncomputable def g4 : Cfg := { P := Try.prog, take := [], keep := [], gho := [], ctx := [(14, C14), (15, C15), (16, C16), (17, C17), (18, C18)] }
@[simp] theorem g4_P : g4.P = Try.prog := rfl
@[simp] theorem g4_t : g4.take = [] := rfl
@[simp] theorem g4_g : g4.gho = [] := rfl
@[simp] theorem g4_14 : lookN 14 g4.ctx = some C14 := rfl
@[simp] theorem g4_15 : lookN 15 g4.ctx = some C15 := rfl
@[simp] theorem g4_16 : lookN 16 g4.ctx = some C16 := rfl
@[simp] theorem g4_17 : lookN 17 g4.ctx = some C17 := rfl
@[simp] theorem g4_18 : lookN 18 g4.ctx = some C18 := rfl
set_option maxRecDepth 100000 in
theorem w4 {aA aB} {y} (hp : laws_FnExactEqualSession aA aB = some y) : ∃ m, callo g4 0 4 [av .shr aA, av .shr aB] mem0 = some (Res.res y, m) := by
  refine start_fn (Try.f4.body.getD .skip) [.tmp 4] rfl rfl Try.func4 (by kernel_rfl) (by kernel_rfl) (by simp [Try.ntmps4]) rfl ?_
  unfold laws_FnExactEqualSession at hp
  obtain ⟨y_1, h_2, hp⟩ := bind_some hp
  have c_3 := C14_eq h_2
  simp at c_3
  simp [Try.f4, c_3]
  rcases cond_cases hp with ⟨h_4, hp⟩ | ⟨h_4, hp⟩
  · try simp at h_4
    cases hp
    simp [Goal, FnEnd, h_4]
  · try simp at h_4
    obtain ⟨y_5, h_6, hp⟩ := bind_some hp
    have c_7 := C14_eq h_6
    simp at c_7
    try simp [h_4, c_7]
    rcases cond_cases hp with ⟨h_8, hp⟩ | ⟨h_8, hp⟩
    · try simp at h_8
      cases hp
      simp [Goal, FnEnd, h_4, h_8]
    · try simp at h_8
      obtain ⟨y_9, h_10, hp⟩ := bind_some hp
      have c_11 := C16_eq h_10
      simp at c_11
      obtain ⟨y_12, h_13, hp⟩ := bind_some hp
      have c_14 := C16_eq h_13
      simp at c_14
      obtain ⟨y_15, h_16, hp⟩ := bind_some hp
      have c_17 := C15_eq h_16
      simp at c_17
      obtain ⟨y_18, h_19, hp⟩ := bind_some hp
      cases Option.some.inj (h_10.symm.trans h_19)
      obtain ⟨y_20, h_21, hp⟩ := bind_some hp
      cases Option.some.inj (h_13.symm.trans h_21)
      obtain ⟨y_22, h_23, hp⟩ := bind_some hp
      have c_24 := C17_eq h_23
      simp at c_24
      try simp [h_4, h_8, c_11, c_14, c_17, c_11, c_14, c_24]
      rcases cond_cases hp with ⟨h_25, hp⟩ | ⟨h_25, hp⟩
      · try simp at h_25
        cases hp
        simp [Goal, FnEnd, h_4, h_8, h_25]
      · try simp at h_25
        obtain ⟨y_26, h_27, hp⟩ := bind_some hp
        cases Option.some.inj (h_10.symm.trans h_27)
        obtain ⟨y_28, h_29, hp⟩ := bind_some hp
        have c_30 := C18_eq h_29
        simp at c_30
        try simp [h_4, h_8, h_25, c_11, c_30]
        rcases cond_cases hp with ⟨h_31, hp⟩ | ⟨h_31, hp⟩
        · try simp at h_31
          obtain ⟨y_32, h_33, hp⟩ := bind_some hp
          cases Option.some.inj (h_13.symm.trans h_33)
          obtain ⟨y_34, h_35, hp⟩ := bind_some hp
          have c_36 := C18_eq h_35
          simp at c_36
          try simp [h_4, h_8, h_25, h_31, c_14, c_36]
          rcases cond_cases hp with ⟨h_37, hp⟩ | ⟨h_37, hp⟩
          · try simp at h_37
            cases hp
            simp [Goal, FnEnd, h_4, h_8, h_25, h_31, h_37]
          · try simp at h_37
            cases hp
            simp [Goal, FnEnd, h_4, h_8, h_25, h_31, h_37]
        · try simp at h_31
          cases hp
          simp [Goal, FnEnd, h_4, h_8, h_25, h_31]
theorem pc4 : PC Try.prog 4 C4 := pc_of (g := g4) (ctxOK_of [(14, C14), (15, C15), (16, C16), (17, C17), (18, C18)] rfl ⟨pc14, pc15, pc16, pc17, pc18, trivial⟩) ⟨Try.f4, Try.func4, by kernel_rfl, by kernel_rfl⟩ fun x y h => w4 h
end Go.Proofs
