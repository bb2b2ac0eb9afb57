import Derived.Test.YtdjpaoikfigfhaaEvA12
set_option linter.unusedSimpArgs false
set_option linter.unusedVariables false
set_option linter.unnecessarySimpa false
namespace Go.Proofs
open Go.Ev
noncomputable def C137 : List AV → Option AV := specP (X := Int × THeap × Unit) fun x => spec_IsHeap x.1 x.2.1
theorem C137_eq {vars h_} {y} (h : spec_IsHeap vars h_ = some y) : C137 [av .shr vars, av .shr h_] = some (Res.res y) := specP_eq (X := Int × THeap × Unit) (F := fun x => spec_IsHeap x.1 x.2.1) (x := (vars, h_, ())) h
noncomputable def g137 : Cfg := { P := Try.prog, take := [], keep := [((137, 5), { hd := [3, 5, 6], bx := [], ex := [3, 5], rt := [4] })], gho := [], ctx := [(111, C111), (162, C162), (180, C180), (181, C181)] }
@[simp] theorem g137_P : g137.P = Try.prog := rfl
@[simp] theorem g137_t : g137.take = [] := rfl
@[simp] theorem g137_g : g137.gho = [] := rfl
@[simp] theorem g137_r : g137.ro = [] := rfl
@[simp] theorem g137_w : g137.away = [] := by rw [g137]
@[simp] theorem g137_111 : lookN 111 g137.ctx = some C111 := rfl
@[simp] theorem g137_162 : lookN 162 g137.ctx = some C162 := rfl
@[simp] theorem g137_180 : lookN 180 g137.ctx = some C180 := rfl
@[simp] theorem g137_181 : lookN 181 g137.ctx = some C181 := rfl
set_option maxHeartbeats 4000000 in
set_option maxRecDepth 100000 in
theorem w137 {vars h_} {y} (hp : spec_IsHeap vars h_ = some y) : ∃ m, callo g137 0 137 [av .shr vars, av .shr h_] mem0 = some (Res.res y, m) := by
  refine start_fn (Try.f137.body.getD .skip) [.tmp 4] rfl rfl Try.func137 (by kernel_rfl) (by kernel_rfl) (by simp [Try.ntmps137]) rfl ?_
  unfold spec_IsHeap at hp
  obtain ⟨y_1, h_2, hp⟩ := bind_some hp
  have c_3 := C111_eq h_2
  simp at c_3
  simp [Try.f137, c_3]
  rcases cond_cases hp with ⟨h_4, hp⟩ | ⟨h_4, hp⟩
  · try simp at h_4
    try simp [h_4]
    rcases cond_cases hp with ⟨h_5, hp⟩ | ⟨h_5, hp⟩
    · try simp at h_5
      cases hp
      simp [Goal, FnEnd, h_4, h_5]
    · try simp at h_5
      try simp [h_4, h_5]
      rcases cond_cases hp with ⟨h_6, hp⟩ | ⟨h_6, hp⟩
      · try simp at h_6
        cases hp
        simp [Goal, FnEnd, h_4, h_5, h_6]
      · try simp at h_6
        obtain ⟨y_7, h_8, hp⟩ := bind_some hp
        have c_9 := C162_eq h_8
        simp at c_9
        try simp [h_4, h_5, h_6, c_9]
        rcases cond_cases hp with ⟨h_10, hp⟩ | ⟨h_10, hp⟩
        · try simp at h_10
          obtain ⟨y_11, h_12, hp⟩ := bind_some hp
          have c_13 := C180_eq h_12
          simp at c_13
          try simp [h_4, h_5, h_6, h_10, c_13]
          rcases cond_cases hp with ⟨h_14, hp⟩ | ⟨h_14, hp⟩
          · try simp at h_14
            obtain ⟨y_15, h_16, hp⟩ := bind_some hp
            have c_17 := C181_eq h_16
            simp at c_17
            try simp [h_4, h_5, h_6, h_10, h_14, c_17]
            obtain ⟨r_35, h_36, hp⟩ := bind_some hp
            obtain ⟨I_20, I_20_⟩ : ∃ I : Int → St → Prop, I = (fun (s_18 : Int) (σ : St) => σ.env 3 = .one (.ptr (1, 3) 0) ∧ σ.env 5 = .one (.l .own y_15.length (encL y_15)) ∧ σ.env 6 = .one (.s (.int .i64 s_18)) ∧ σ.mem (1, 3) = some [(.l .shr h_.vars.length (encL h_.vars)), (.l .shr h_.next.length (encL h_.next))] ∧ NoBox [(1, 3)] σ.mem) := ⟨_, rfl⟩
            obtain ⟨X_21, X_21_⟩ : ∃ X : ((Unit) ⊕ (Unit)) → Out → Prop, X = (fun (r_35 : (Unit) ⊕ (Unit)) (out : Out) => Sum.elim (fun r_35 => ∃ σ : St, out = .ret σ ∧ σ.env 4 = .one (.s (.bool false)) ∧ σ.mem (1, 3) = some [(.l .shr h_.vars.length (encL h_.vars)), (.l .shr h_.next.length (encL h_.next))] ∧ NoBox [(1, 3)] σ.mem) (fun r_35 => ∃ σ : St, out = .exit 0 σ ∧ σ.env 3 = .one (.ptr (1, 3) 0) ∧ σ.env 5 = .one (.l .own y_15.length (encL y_15)) ∧ σ.mem (1, 3) = some [(.l .shr h_.vars.length (encL h_.vars)), (.l .shr h_.next.length (encL h_.next))] ∧ NoBox [(1, 3)] σ.mem) r_35) := ⟨_, rfl⟩
            refine loopP ({ hd := [3, 5, 6], bx := [], ex := [3, 5], rt := [4] }) I_20 X_21 h_36 (by exact rfl) ?_ ?_ ?_
            · rw [I_20_]
              refine ⟨?_, ?_, ?_, ?_, NoBox.restrict (by intro k hk hb; simp at hk hb; simp [hk, hb, h_4, h_5, h_6, h_10, h_14])⟩ <;> simp [restrict_env, restrict_mem, h_4, h_5, h_6, h_10, h_14]
            · intro s_18 σ_22 a_19 hI hp
              rw [I_20_] at hI
              obtain ⟨q_23, q_24, q_25, q_26, hn_27⟩ := hI
              try simp [h_4, h_5, h_6, h_10, h_14, q_23, q_24, q_25, q_26]
              rcases cond_cases hp with ⟨h_28, hp⟩ | ⟨h_28, hp⟩
              · try simp at h_28
                obtain ⟨e_29, h_30, hp⟩ := bind_some hp
                have b_31 := at_lo h_30
                have b_32 := at_hi h_30
                try simp at b_31
                try simp at b_32
                have c_33 := seg_at' h_30 0 1 (by decide) (ds := [.sc (.int .i64 e_29)]) rfl
                try simp at c_33
                try simp [h_4, h_5, h_6, h_10, h_14, q_23, q_24, q_25, q_26, h_28, b_31, b_32, c_33]
                rcases cond_cases hp with ⟨h_34, hp⟩ | ⟨h_34, hp⟩
                · try simp at h_34
                  cases hp
                  try simp [h_4, h_5, h_6, h_10, h_14, q_23, q_24, q_25, q_26, h_28, h_34]
                  refine goal_outR ?_
                  rw [X_21_]
                  refine ⟨_, rfl, ?_, ?_, NoBox.restrict (by intro k hk hb; simp at hk hb; simp [hk, hb, h_4, h_5, h_6, h_10, h_14, q_23, q_24, q_25, q_26, h_28, h_34, hn_27 k (by simp [hk, hb])])⟩ <;> simp [restrict_env, restrict_mem, h_4, h_5, h_6, h_10, h_14, q_23, q_24, q_25, q_26, h_28, h_34]
                · try simp at h_34
                  cases hp
                  try simp [h_4, h_5, h_6, h_10, h_14, q_23, q_24, q_25, q_26, h_28, h_34]
                  refine goal_next ?_
                  rw [I_20_]
                  refine ⟨?_, ?_, ?_, ?_, NoBox.restrict (by intro k hk hb; simp at hk hb; simp [hk, hb, h_4, h_5, h_6, h_10, h_14, q_23, q_24, q_25, q_26, h_28, h_34, hn_27 k (by simp [hk, hb])])⟩ <;> simp [restrict_env, restrict_mem, h_4, h_5, h_6, h_10, h_14, q_23, q_24, q_25, q_26, h_28, h_34]
              · try simp at h_28
                cases hp
                try simp [h_4, h_5, h_6, h_10, h_14, q_23, q_24, q_25, q_26, h_28]
                refine goal_outX ?_
                rw [X_21_]
                refine ⟨_, rfl, ?_, ?_, ?_, NoBox.restrict (by intro k hk hb; simp at hk hb; simp [hk, hb, h_4, h_5, h_6, h_10, h_14, q_23, q_24, q_25, q_26, h_28, hn_27 k (by simp [hk, hb])])⟩ <;> simp [restrict_env, restrict_mem, h_4, h_5, h_6, h_10, h_14, q_23, q_24, q_25, q_26, h_28]
            · intro out hX
              rw [X_21_] at hX
              rcases r_35 with r_35 | r_35
              · simp only [Sum.elim_inl, Sum.elim_inr] at hX hp
                obtain ⟨σ_37, rfl, q_38, q_39, hn_40⟩ := hX
                cases hp
                simp [Goal, FnEnd, h_4, h_5, h_6, h_10, h_14, q_38, q_39]
              · simp only [Sum.elim_inl, Sum.elim_inr] at hX hp
                obtain ⟨σ_41, rfl, q_42, q_43, q_44, hn_45⟩ := hX
                cases hp
                simp [Goal, FnEnd, h_4, h_5, h_6, h_10, h_14, q_42, q_43, q_44]
          · try simp at h_14
            cases hp
            simp [Goal, FnEnd, h_4, h_5, h_6, h_10, h_14]
        · try simp at h_10
          cases hp
          simp [Goal, FnEnd, h_4, h_5, h_6, h_10]
  · try simp at h_4
    cases hp
    simp [Goal, FnEnd, h_4]
theorem pc137 : PC Try.prog 137 C137 := pc_of (g := g137) (ctxOK_of [(111, C111), (162, C162), (180, C180), (181, C181)] rfl ⟨pc111, pc162, pc180, pc181, trivial⟩) ⟨Try.f137, Try.func137, by kernel_rfl, by kernel_rfl⟩ fun x y h => w137 h

noncomputable def C138 : List AV → Option AV := specP (X := THeap × Unit) fun x => spec_l7Copy x.1
theorem C138_eq {h_} {y} (h : spec_l7Copy h_ = some y) : C138 [av .shr h_] = some (Res.res y) := specP_eq (X := THeap × Unit) (F := fun x => spec_l7Copy x.1) (x := (h_, ())) h
noncomputable def g138 : Cfg := { P := Try.prog, take := [], keep := [], gho := [], ctx := [] }
@[simp] theorem g138_P : g138.P = Try.prog := rfl
@[simp] theorem g138_t : g138.take = [] := rfl
@[simp] theorem g138_g : g138.gho = [] := rfl
@[simp] theorem g138_r : g138.ro = [] := rfl
@[simp] theorem g138_w : g138.away = [] := by rw [g138]
set_option maxHeartbeats 4000000 in
set_option maxRecDepth 100000 in
theorem w138 {h_} {y} (hp : spec_l7Copy h_ = some y) : ∃ m, callo g138 0 138 [av .shr h_] mem0 = some (Res.res y, m) := by
  refine start_fn (Try.f138.body.getD .skip) [.cell 2 28] rfl rfl Try.func138 (by kernel_rfl) (by kernel_rfl) (by simp [Try.ntmps138]) rfl ?_
  unfold spec_l7Copy at hp
  obtain ⟨_, h_1, hp⟩ := bind_some hp
  have b_2 := room_ok h_1
  try simp at b_2
  obtain ⟨_, h_3, hp⟩ := bind_some hp
  have b_4 := room_ok h_3
  try simp at b_4
  cases hp
  simp [Try.f138, Goal, FnEnd, retR, rsrc, RSrc.val, nodupR, nodup, tupPart, b_2, b_4]
theorem pc138 : PC Try.prog 138 C138 := pc_of (g := g138) (fun f F h => by cases h) ⟨Try.f138, Try.func138, by kernel_rfl, by kernel_rfl⟩ fun x y h => w138 h

noncomputable def C74 : List AV → Option AV := specP (X := Int × Int × Unit) fun x => spec_SmallHeaps x.1 x.2.1
theorem C74_eq {vars cells} {y} (h : spec_SmallHeaps vars cells = some y) : C74 [av .shr vars, av .shr cells] = some (Res.res y) := specP_eq (X := Int × Int × Unit) (F := fun x => spec_SmallHeaps x.1 x.2.1) (x := (vars, cells, ())) h
noncomputable def g74 : Cfg := { P := Try.prog, take := [(74, 21), (74, 59), (74, 64)], keep := [((74, 5), { hd := [0, 1, 5, 6], bx := [11], ex := [5], rt := [4] }), ((74, 10), { hd := [0, 1, 5, 6, 7, 8, 9], bx := [11], ex := [0, 1, 5, 6], rt := [4] }), ((74, 13), { hd := [0, 1, 5, 6, 7, 8, 9, 10], bx := [11], ex := [0, 1, 5, 6, 7, 8, 9], rt := [4] })], gho := [], ctx := [(111, C111), (136, C136), (137, C137), (138, C138)] }
@[simp] theorem g74_P : g74.P = Try.prog := rfl
@[simp] theorem g74_t : g74.take = [(74, 21), (74, 59), (74, 64)] := rfl
@[simp] theorem g74_g : g74.gho = [] := rfl
@[simp] theorem g74_r : g74.ro = [] := rfl
@[simp] theorem g74_w : g74.away = [] := by rw [g74]
@[simp] theorem g74_111 : lookN 111 g74.ctx = some C111 := rfl
@[simp] theorem g74_136 : lookN 136 g74.ctx = some C136 := rfl
@[simp] theorem g74_137 : lookN 137 g74.ctx = some C137 := rfl
@[simp] theorem g74_138 : lookN 138 g74.ctx = some C138 := rfl
set_option maxHeartbeats 4000000 in
set_option maxRecDepth 100000 in
theorem w74 {vars cells} {y} (hp : spec_SmallHeaps vars cells = some y) : ∃ m, callo g74 0 74 [av .shr vars, av .shr cells] mem0 = some (Res.res y, m) := by
  refine start_fn (Try.f74.body.getD .skip) [.tmp 4] rfl rfl Try.func74 (by kernel_rfl) (by kernel_rfl) (by simp [Try.ntmps74]) rfl ?_
  unfold spec_SmallHeaps at hp
  obtain ⟨y_1, h_2, hp⟩ := bind_some hp
  have c_3 := C111_eq h_2
  simp at c_3
  simp [Try.f74, c_3]
  rcases cond_cases hp with ⟨h_4, hp⟩ | ⟨h_4, hp⟩
  · try simp at h_4
    obtain ⟨y_5, h_6, hp⟩ := bind_some hp
    have c_7 := C111_eq h_6
    simp at c_7
    try simp [h_4, c_7]
    rcases cond_cases hp with ⟨h_8, hp⟩ | ⟨h_8, hp⟩
    · try simp at h_8
      try simp [h_4, h_8]
      obtain ⟨r_94, h_95, hp⟩ := bind_some hp
      obtain ⟨I_11, I_11_⟩ : ∃ I : (List THeap) × Int → St → Prop, I = (fun (s_9 : (List THeap) × Int) (σ : St) => σ.env 0 = .one (.s (.int .i64 vars)) ∧ σ.env 1 = .one (.s (.int .i64 cells)) ∧ σ.env 5 = .one (.l .own s_9.1.length (encL s_9.1)) ∧ σ.env 6 = .one (.s (.int .i64 s_9.2)) ∧ NoBox [] σ.mem) := ⟨_, rfl⟩
      obtain ⟨X_12, X_12_⟩ : ∃ X : (List THeap) → Out → Prop, X = (fun (r_94 : (List THeap)) (out : Out) => ∃ σ : St, out = .exit 0 σ ∧ σ.env 5 = .one (.l .own r_94.length (encL r_94)) ∧ NoBox [] σ.mem) := ⟨_, rfl⟩
      refine loopP ({ hd := [0, 1, 5, 6], bx := [11], ex := [5], rt := [4] }) I_11 X_12 h_95 (by exact rfl) ?_ ?_ ?_
      · rw [I_11_]
        refine ⟨?_, ?_, ?_, ?_, NoBox.restrict (by intro k hk hb; simp at hk hb; simp [hk, hb, h_4, h_8])⟩ <;> simp [restrict_env, restrict_mem, h_4, h_8]
      · intro s_9 σ_13 a_10 hI hp
        rw [I_11_] at hI
        obtain ⟨q_14, q_15, q_16, q_17, hn_18⟩ := hI
        try simp [h_4, h_8, q_14, q_15, q_16, q_17]
        rcases cond_cases hp with ⟨h_19, hp⟩ | ⟨h_19, hp⟩
        · try simp at h_19
          obtain ⟨y_20, h_21, hp⟩ := bind_some hp
          have c_22 := C136_eq h_21
          simp at c_22
          obtain ⟨y_23, h_24, hp⟩ := bind_some hp
          have c_25 := C136_eq h_24
          simp at c_25
          try simp [h_4, h_8, q_14, q_15, q_16, q_17, h_19, c_22, c_25]
          obtain ⟨r_86, h_87, hp⟩ := bind_some hp
          obtain ⟨I_28, I_28_⟩ : ∃ I : (List THeap) × Int → St → Prop, I = (fun (s_26 : (List THeap) × Int) (σ : St) => σ.env 0 = .one (.s (.int .i64 vars)) ∧ σ.env 1 = .one (.s (.int .i64 cells)) ∧ σ.env 5 = .one (.l .own s_26.1.length (encL s_26.1)) ∧ σ.env 6 = .one (.s (.int .i64 s_9.2)) ∧ σ.env 7 = .one (.l .own y_20.length (encL y_20)) ∧ σ.env 8 = .one (.l .own y_23.length (encL y_23)) ∧ σ.env 9 = .one (.s (.int .i64 s_26.2)) ∧ NoBox [] σ.mem) := ⟨_, rfl⟩
          obtain ⟨X_29, X_29_⟩ : ∃ X : (List THeap) → Out → Prop, X = (fun (r_86 : (List THeap)) (out : Out) => ∃ σ : St, out = .exit 2 σ ∧ σ.env 0 = .one (.s (.int .i64 vars)) ∧ σ.env 1 = .one (.s (.int .i64 cells)) ∧ σ.env 5 = .one (.l .own r_86.length (encL r_86)) ∧ σ.env 6 = .one (.s (.int .i64 s_9.2)) ∧ NoBox [] σ.mem) := ⟨_, rfl⟩
          refine loopP ({ hd := [0, 1, 5, 6, 7, 8, 9], bx := [11], ex := [0, 1, 5, 6], rt := [4] }) I_28 X_29 h_87 (by exact rfl) ?_ ?_ ?_
          · rw [I_28_]
            refine ⟨?_, ?_, ?_, ?_, ?_, ?_, ?_, NoBox.restrict (by intro k hk hb; simp at hk hb; simp [hk, hb, h_4, h_8, q_14, q_15, q_16, q_17, h_19, hn_18 k (by simp [hk, hb])])⟩ <;> simp [restrict_env, restrict_mem, h_4, h_8, q_14, q_15, q_16, q_17, h_19]
          · intro s_26 σ_30 a_27 hI hp
            rw [I_28_] at hI
            obtain ⟨q_31, q_32, q_33, q_34, q_35, q_36, q_37, hn_38⟩ := hI
            try simp [h_4, h_8, h_19, q_31, q_32, q_33, q_34, q_35, q_36, q_37]
            rcases cond_cases hp with ⟨h_39, hp⟩ | ⟨h_39, hp⟩
            · try simp at h_39
              try simp [h_4, h_8, h_19, q_31, q_32, q_33, q_34, q_35, q_36, q_37, h_39]
              obtain ⟨r_75, h_76, hp⟩ := bind_some hp
              obtain ⟨I_42, I_42_⟩ : ∃ I : (List THeap) × Int → St → Prop, I = (fun (s_40 : (List THeap) × Int) (σ : St) => σ.env 0 = .one (.s (.int .i64 vars)) ∧ σ.env 1 = .one (.s (.int .i64 cells)) ∧ σ.env 5 = .one (.l .own s_40.1.length (encL s_40.1)) ∧ σ.env 6 = .one (.s (.int .i64 s_9.2)) ∧ σ.env 7 = .one (.l .own y_20.length (encL y_20)) ∧ σ.env 8 = .one (.l .own y_23.length (encL y_23)) ∧ σ.env 9 = .one (.s (.int .i64 s_26.2)) ∧ σ.env 10 = .one (.s (.int .i64 s_40.2)) ∧ NoBox [] σ.mem) := ⟨_, rfl⟩
              obtain ⟨X_43, X_43_⟩ : ∃ X : (List THeap) → Out → Prop, X = (fun (r_75 : (List THeap)) (out : Out) => ∃ σ : St, out = .exit 4 σ ∧ σ.env 0 = .one (.s (.int .i64 vars)) ∧ σ.env 1 = .one (.s (.int .i64 cells)) ∧ σ.env 5 = .one (.l .own r_75.length (encL r_75)) ∧ σ.env 6 = .one (.s (.int .i64 s_9.2)) ∧ σ.env 7 = .one (.l .own y_20.length (encL y_20)) ∧ σ.env 8 = .one (.l .own y_23.length (encL y_23)) ∧ σ.env 9 = .one (.s (.int .i64 s_26.2)) ∧ NoBox [] σ.mem) := ⟨_, rfl⟩
              refine loopP ({ hd := [0, 1, 5, 6, 7, 8, 9, 10], bx := [11], ex := [0, 1, 5, 6, 7, 8, 9], rt := [4] }) I_42 X_43 h_76 (by exact rfl) ?_ ?_ ?_
              · rw [I_42_]
                refine ⟨?_, ?_, ?_, ?_, ?_, ?_, ?_, ?_, NoBox.restrict (by intro k hk hb; simp at hk hb; simp [hk, hb, h_4, h_8, h_19, q_31, q_32, q_33, q_34, q_35, q_36, q_37, h_39, hn_38 k (by simp [hk, hb])])⟩ <;> simp [restrict_env, restrict_mem, h_4, h_8, h_19, q_31, q_32, q_33, q_34, q_35, q_36, q_37, h_39]
              · intro s_40 σ_44 a_41 hI hp
                rw [I_42_] at hI
                obtain ⟨q_45, q_46, q_47, q_48, q_49, q_50, q_51, q_52, hn_53⟩ := hI
                try simp [h_4, h_8, h_19, h_39, q_45, q_46, q_47, q_48, q_49, q_50, q_51, q_52]
                rcases cond_cases hp with ⟨h_54, hp⟩ | ⟨h_54, hp⟩
                · try simp at h_54
                  obtain ⟨e_55, h_56, hp⟩ := bind_some hp
                  have b_57 := at_lo h_56
                  have b_58 := at_hi h_56
                  try simp at b_57
                  try simp at b_58
                  have c_59 := seg_at' h_56 0 1 (by decide) (ds := [.sl e_55.length (encL e_55)]) rfl
                  try simp at c_59
                  obtain ⟨e_60, h_61, hp⟩ := bind_some hp
                  have b_62 := at_lo h_61
                  have b_63 := at_hi h_61
                  try simp at b_62
                  try simp at b_63
                  have c_64 := seg_at' h_61 0 1 (by decide) (ds := [.sl e_60.length (encL e_60)]) rfl
                  try simp at c_64
                  have n_65 := hn_53 (1, 11) (by simp)
                  obtain ⟨y_66, h_67, hp⟩ := bind_some hp
                  have c_68 := C137_eq h_67
                  simp at c_68
                  try simp [h_4, h_8, h_19, h_39, q_45, q_46, q_47, q_48, q_49, q_50, q_51, q_52, h_54, b_57, b_58, c_59, b_62, b_63, c_64, n_65, c_68]
                  rcases cond_cases hp with ⟨h_69, hp⟩ | ⟨h_69, hp⟩
                  · try simp at h_69
                    obtain ⟨y_70, h_71, hp⟩ := bind_some hp
                    have c_72 := C138_eq h_71
                    simp at c_72
                    obtain ⟨_, h_73, hp⟩ := bind_some hp
                    have b_74 := room_ok h_73
                    try simp at b_74
                    cases hp
                    try simp [h_4, h_8, h_19, h_39, q_45, q_46, q_47, q_48, q_49, q_50, q_51, q_52, h_54, h_69, c_72, b_74]
                    refine goal_next ?_
                    rw [I_42_]
                    refine ⟨?_, ?_, ?_, ?_, ?_, ?_, ?_, ?_, NoBox.restrict (by intro k hk hb; simp at hk hb; simp [hk, hb, h_4, h_8, h_19, h_39, q_45, q_46, q_47, q_48, q_49, q_50, q_51, q_52, h_54, h_69, c_72, b_74, hn_53 k (by simp [hk, hb])])⟩ <;> simp [restrict_env, restrict_mem, h_4, h_8, h_19, h_39, q_45, q_46, q_47, q_48, q_49, q_50, q_51, q_52, h_54, h_69, c_72, b_74]
                  · try simp at h_69
                    cases hp
                    try simp [h_4, h_8, h_19, h_39, q_45, q_46, q_47, q_48, q_49, q_50, q_51, q_52, h_54, h_69]
                    refine goal_next ?_
                    rw [I_42_]
                    refine ⟨?_, ?_, ?_, ?_, ?_, ?_, ?_, ?_, NoBox.restrict (by intro k hk hb; simp at hk hb; simp [hk, hb, h_4, h_8, h_19, h_39, q_45, q_46, q_47, q_48, q_49, q_50, q_51, q_52, h_54, h_69, hn_53 k (by simp [hk, hb])])⟩ <;> simp [restrict_env, restrict_mem, h_4, h_8, h_19, h_39, q_45, q_46, q_47, q_48, q_49, q_50, q_51, q_52, h_54, h_69]
                · try simp at h_54
                  cases hp
                  try simp [h_4, h_8, h_19, h_39, q_45, q_46, q_47, q_48, q_49, q_50, q_51, q_52, h_54]
                  refine goal_outX ?_
                  rw [X_43_]
                  refine ⟨_, rfl, ?_, ?_, ?_, ?_, ?_, ?_, ?_, NoBox.restrict (by intro k hk hb; simp at hk hb; simp [hk, hb, h_4, h_8, h_19, h_39, q_45, q_46, q_47, q_48, q_49, q_50, q_51, q_52, h_54, hn_53 k (by simp [hk, hb])])⟩ <;> simp [restrict_env, restrict_mem, h_4, h_8, h_19, h_39, q_45, q_46, q_47, q_48, q_49, q_50, q_51, q_52, h_54]
              · intro out hX
                rw [X_43_] at hX
                obtain ⟨σ_77, rfl, q_78, q_79, q_80, q_81, q_82, q_83, q_84, hn_85⟩ := hX
                cases hp
                try simp [h_4, h_8, h_19, h_39, q_78, q_79, q_80, q_81, q_82, q_83, q_84]
                refine goal_next ?_
                rw [I_28_]
                refine ⟨?_, ?_, ?_, ?_, ?_, ?_, ?_, NoBox.restrict (by intro k hk hb; simp at hk hb; simp [hk, hb, h_4, h_8, h_19, h_39, q_78, q_79, q_80, q_81, q_82, q_83, q_84, hn_85 k (by simp [hk, hb])])⟩ <;> simp [restrict_env, restrict_mem, h_4, h_8, h_19, h_39, q_78, q_79, q_80, q_81, q_82, q_83, q_84]
            · try simp at h_39
              cases hp
              try simp [h_4, h_8, h_19, q_31, q_32, q_33, q_34, q_35, q_36, q_37, h_39]
              refine goal_outX ?_
              rw [X_29_]
              refine ⟨_, rfl, ?_, ?_, ?_, ?_, NoBox.restrict (by intro k hk hb; simp at hk hb; simp [hk, hb, h_4, h_8, h_19, q_31, q_32, q_33, q_34, q_35, q_36, q_37, h_39, hn_38 k (by simp [hk, hb])])⟩ <;> simp [restrict_env, restrict_mem, h_4, h_8, h_19, q_31, q_32, q_33, q_34, q_35, q_36, q_37, h_39]
          · intro out hX
            rw [X_29_] at hX
            obtain ⟨σ_88, rfl, q_89, q_90, q_91, q_92, hn_93⟩ := hX
            cases hp
            try simp [h_4, h_8, h_19, q_89, q_90, q_91, q_92]
            refine goal_next ?_
            rw [I_11_]
            refine ⟨?_, ?_, ?_, ?_, NoBox.restrict (by intro k hk hb; simp at hk hb; simp [hk, hb, h_4, h_8, h_19, q_89, q_90, q_91, q_92, hn_93 k (by simp [hk, hb])])⟩ <;> simp [restrict_env, restrict_mem, h_4, h_8, h_19, q_89, q_90, q_91, q_92]
        · try simp at h_19
          cases hp
          try simp [h_4, h_8, q_14, q_15, q_16, q_17, h_19]
          refine goal_outX ?_
          rw [X_12_]
          exact ⟨_, rfl, by simp [restrict_env, h_4, h_8, q_14, q_15, q_16, q_17, h_19], NoBox.restrict (by intro k hk hb; simp at hk hb; simp [hk, hb, h_4, h_8, q_14, q_15, q_16, q_17, h_19, hn_18 k (by simp [hk, hb])])⟩
      · intro out hX
        rw [X_12_] at hX
        obtain ⟨σ_96, rfl, q_97, hn_98⟩ := hX
        cases hp
        simp [Goal, FnEnd, h_4, h_8, q_97]
    · try simp at h_8
      cases hp
      simp [Goal, FnEnd, h_4, h_8]
  · try simp at h_4
    cases hp
    simp [Goal, FnEnd, h_4]
theorem pc74 : PC Try.prog 74 C74 := pc_of (g := g74) (ctxOK_of [(111, C111), (136, C136), (137, C137), (138, C138)] rfl ⟨pc111, pc136, pc137, pc138, trivial⟩) ⟨Try.f74, Try.func74, by kernel_rfl, by kernel_rfl⟩ fun x y h => w74 h

noncomputable def C163 : List AV → Option AV := specP (X := Bool × Unit) fun x => spec_l3Of x.1
theorem C163_eq {on} {y} (h : spec_l3Of on = some y) : C163 [av .shr on] = some (Res.res y) := specP_eq (X := Bool × Unit) (F := fun x => spec_l3Of x.1) (x := (on, ())) h
noncomputable def g163 : Cfg := { P := Try.prog, take := [], keep := [], gho := [], ctx := [] }
@[simp] theorem g163_P : g163.P = Try.prog := rfl
@[simp] theorem g163_t : g163.take = [] := rfl
@[simp] theorem g163_g : g163.gho = [] := rfl
@[simp] theorem g163_r : g163.ro = [] := rfl
@[simp] theorem g163_w : g163.away = [] := by rw [g163]
set_option maxHeartbeats 4000000 in
set_option maxRecDepth 100000 in
theorem w163 {on} {y} (hp : spec_l3Of on = some y) : ∃ m, callo g163 0 163 [av .shr on] mem0 = some (Res.res y, m) := by
  refine start_fn (Try.f163.body.getD .skip) [.tmp 2] rfl rfl Try.func163 (by kernel_rfl) (by kernel_rfl) (by simp [Try.ntmps163]) rfl ?_
  unfold spec_l3Of at hp
  simp [Try.f163]
  rcases cond_cases hp with ⟨h_1, hp⟩ | ⟨h_1, hp⟩
  · try simp at h_1
    cases hp
    simp [Goal, FnEnd, h_1]
  · try simp at h_1
    cases hp
    simp [Goal, FnEnd, h_1]
theorem pc163 : PC Try.prog 163 C163 := pc_of (g := g163) (fun f F h => by cases h) ⟨Try.f163, Try.func163, by kernel_rfl, by kernel_rfl⟩ fun x y h => w163 h

noncomputable def C99 : List AV → Option AV := specP (X := THeap × Unit) fun x => spec_StructureOf x.1
theorem C99_eq {h_} {y} (h : spec_StructureOf h_ = some y) : C99 [av .shr h_] = some (Res.res y) := specP_eq (X := THeap × Unit) (F := fun x => spec_StructureOf x.1) (x := (h_, ())) h
noncomputable def g99 : Cfg := { P := Try.prog, take := [(99, 49), (99, 62), (99, 77), (99, 78), (99, 88), (99, 100)], keep := [((99, 6), { hd := [1, 2, 3, 4, 5], bx := [6], ex := [2, 4], rt := [2] }), ((99, 10), { hd := [1, 2, 3, 4, 5, 6, 7], bx := [], ex := [1, 2, 3, 4, 5, 6], rt := [2] }), ((99, 16), { hd := [1, 2, 3, 4, 5, 8], bx := [], ex := [1, 2, 3, 4, 5], rt := [2] })], gho := [], ctx := [(111, C111), (121, C121), (162, C162), (163, C163), (164, C164), (165, C165)] }
@[simp] theorem g99_P : g99.P = Try.prog := rfl
@[simp] theorem g99_t : g99.take = [(99, 49), (99, 62), (99, 77), (99, 78), (99, 88), (99, 100)] := rfl
@[simp] theorem g99_g : g99.gho = [] := rfl
@[simp] theorem g99_r : g99.ro = [] := rfl
@[simp] theorem g99_w : g99.away = [] := by rw [g99]
@[simp] theorem g99_111 : lookN 111 g99.ctx = some C111 := rfl
@[simp] theorem g99_121 : lookN 121 g99.ctx = some C121 := rfl
@[simp] theorem g99_162 : lookN 162 g99.ctx = some C162 := rfl
@[simp] theorem g99_163 : lookN 163 g99.ctx = some C163 := rfl
@[simp] theorem g99_164 : lookN 164 g99.ctx = some C164 := rfl
@[simp] theorem g99_165 : lookN 165 g99.ctx = some C165 := rfl
set_option maxHeartbeats 4000000 in
set_option maxRecDepth 100000 in
theorem w99 {h_} {y} (hp : spec_StructureOf h_ = some y) : ∃ m, callo g99 0 99 [av .shr h_] mem0 = some (Res.res y, m) := by
  refine start_fn (Try.f99.body.getD .skip) [.cell 2 33] rfl rfl Try.func99 (by kernel_rfl) (by kernel_rfl) (by simp [Try.ntmps99]) rfl ?_
  unfold spec_StructureOf at hp
  obtain ⟨y_1, h_2, hp⟩ := bind_some hp
  have c_3 := C162_eq h_2
  simp at c_3
  simp [Try.f99, c_3]
  rcases cond_cases hp with ⟨h_4, hp⟩ | ⟨h_4, hp⟩
  · try simp at h_4
    try simp [h_4]
    rcases cond_cases hp with ⟨h_5, hp⟩ | ⟨h_5, hp⟩
    · try simp at h_5
      cases hp
      simp [Goal, FnEnd, retR, rsrc, RSrc.val, nodupR, nodup, tupPart, h_4, h_5]
    · try simp at h_5
      obtain ⟨y_6, h_7, hp⟩ := bind_some hp
      have c_8 := C111_eq h_7
      simp at c_8
      try simp [h_4, h_5, c_8]
      rcases cond_cases hp with ⟨h_9, hp⟩ | ⟨h_9, hp⟩
      · try simp at h_9
        try simp [h_4, h_5, h_9]
        obtain ⟨r_132, h_133, hp⟩ := bind_some hp
        obtain ⟨I_12, I_12_⟩ : ∃ I : Int × (List TNode) × (List Int) → St → Prop, I = (fun (s_10 : Int × (List TNode) × (List Int)) (σ : St) => σ.env 1 = .one (.ptr (1, 1) 0) ∧ σ.env 2 = .one (.ptr (1, 2) 0) ∧ σ.env 3 = .one (.s (.int .i64 (h_.next.length : Int))) ∧ σ.env 4 = .one (.ptr (1, 4) 0) ∧ σ.env 5 = .one (.s (.int .i64 s_10.1)) ∧ σ.mem (1, 1) = some [(.l .shr h_.vars.length (encL h_.vars)), (.l .shr h_.next.length (encL h_.next))] ∧ σ.mem (1, 2) = some [(.l .own 0 []), (.l .own 0 [])] ∧ σ.mem (1, 4) = some [(.l .own s_10.2.1.length (encL s_10.2.1)), (.l .own s_10.2.2.length (encL s_10.2.2))] ∧ NoBox [(1, 1), (1, 2), (1, 4)] σ.mem) := ⟨_, rfl⟩
        obtain ⟨X_13, X_13_⟩ : ∃ X : ((List TNode) × (List Int)) → Out → Prop, X = (fun (r_132 : (List TNode) × (List Int)) (out : Out) => ∃ σ : St, out = .exit 0 σ ∧ σ.env 2 = .one (.ptr (1, 2) 0) ∧ σ.env 4 = .one (.ptr (1, 4) 0) ∧ σ.mem (1, 1) = some [(.l .shr h_.vars.length (encL h_.vars)), (.l .shr h_.next.length (encL h_.next))] ∧ σ.mem (1, 2) = some [(.l .own 0 []), (.l .own 0 [])] ∧ σ.mem (1, 4) = some [(.l .own r_132.1.length (encL r_132.1)), (.l .own r_132.2.length (encL r_132.2))] ∧ NoBox [(1, 1), (1, 2), (1, 4)] σ.mem) := ⟨_, rfl⟩
        refine loopP ({ hd := [1, 2, 3, 4, 5], bx := [6], ex := [2, 4], rt := [2] }) I_12 X_13 h_133 (by exact rfl) ?_ ?_ ?_
        · rw [I_12_]
          refine ⟨?_, ?_, ?_, ?_, ?_, ?_, ?_, ?_, NoBox.restrict (by intro k hk hb; simp at hk hb; simp [hk, hb, h_4, h_5, h_9])⟩ <;> simp [restrict_env, restrict_mem, h_4, h_5, h_9]
        · intro s_10 σ_14 a_11 hI hp
          rw [I_12_] at hI
          obtain ⟨q_15, q_16, q_17, q_18, q_19, q_20, q_21, q_22, hn_23⟩ := hI
          try simp [h_4, h_5, h_9, q_15, q_16, q_17, q_18, q_19, q_20, q_21, q_22]
          rcases cond_cases hp with ⟨h_24, hp⟩ | ⟨h_24, hp⟩
          · try simp at h_24
            obtain ⟨y_25, h_26, hp⟩ := bind_some hp
            have c_27 := C121_eq h_26
            simp at c_27
            obtain ⟨y_28, h_29, hp⟩ := bind_some hp
            have c_30 := C163_eq h_29
            simp at c_30
            have n_31 := hn_23 (1, 6) (by simp)
            try simp [h_4, h_5, h_9, q_15, q_16, q_17, q_18, q_19, q_20, q_21, q_22, h_24, c_27, c_30, n_31]
            obtain ⟨r_76, h_77, hp⟩ := bind_some hp
            obtain ⟨I_34, I_34_⟩ : ∃ I : Int × (List Int) × (List Int) → St → Prop, I = (fun (s_32 : Int × (List Int) × (List Int)) (σ : St) => σ.env 1 = .one (.ptr (1, 1) 0) ∧ σ.env 2 = .one (.ptr (1, 2) 0) ∧ σ.env 3 = .one (.s (.int .i64 (h_.next.length : Int))) ∧ σ.env 4 = .one (.ptr (1, 4) 0) ∧ σ.env 5 = .one (.s (.int .i64 s_10.1)) ∧ σ.env 6 = .one (.ptr (1, 6) 0) ∧ σ.env 7 = .one (.s (.int .i64 s_32.1)) ∧ σ.mem (1, 1) = some [(.l .shr h_.vars.length (encL h_.vars)), (.l .shr h_.next.length (encL h_.next))] ∧ σ.mem (1, 2) = some [(.l .own 0 []), (.l .own 0 [])] ∧ σ.mem (1, 4) = some [(.l .own s_10.2.1.length (encL s_10.2.1)), (.l .own s_10.2.2.length (encL s_10.2.2))] ∧ σ.mem (1, 6) = some [(.l .own s_32.2.1.length (encL s_32.2.1)), (.l .own s_32.2.2.length (encL s_32.2.2)), (.s (.int .i64 y_28)), (.s (.int .i64 0))] ∧ NoBox [(1, 1), (1, 2), (1, 4), (1, 6)] σ.mem) := ⟨_, rfl⟩
            obtain ⟨X_35, X_35_⟩ : ∃ X : ((List Int) × (List Int)) → Out → Prop, X = (fun (r_76 : (List Int) × (List Int)) (out : Out) => ∃ σ : St, out = .exit 2 σ ∧ σ.env 1 = .one (.ptr (1, 1) 0) ∧ σ.env 2 = .one (.ptr (1, 2) 0) ∧ σ.env 3 = .one (.s (.int .i64 (h_.next.length : Int))) ∧ σ.env 4 = .one (.ptr (1, 4) 0) ∧ σ.env 5 = .one (.s (.int .i64 s_10.1)) ∧ σ.env 6 = .one (.ptr (1, 6) 0) ∧ σ.mem (1, 1) = some [(.l .shr h_.vars.length (encL h_.vars)), (.l .shr h_.next.length (encL h_.next))] ∧ σ.mem (1, 2) = some [(.l .own 0 []), (.l .own 0 [])] ∧ σ.mem (1, 4) = some [(.l .own s_10.2.1.length (encL s_10.2.1)), (.l .own s_10.2.2.length (encL s_10.2.2))] ∧ σ.mem (1, 6) = some [(.l .own r_76.1.length (encL r_76.1)), (.l .own r_76.2.length (encL r_76.2)), (.s (.int .i64 y_28)), (.s (.int .i64 0))] ∧ NoBox [(1, 1), (1, 2), (1, 4), (1, 6)] σ.mem) := ⟨_, rfl⟩
            refine loopP ({ hd := [1, 2, 3, 4, 5, 6, 7], bx := [], ex := [1, 2, 3, 4, 5, 6], rt := [2] }) I_34 X_35 h_77 (by exact rfl) ?_ ?_ ?_
            · rw [I_34_]
              refine ⟨?_, ?_, ?_, ?_, ?_, ?_, ?_, ?_, ?_, ?_, ?_, NoBox.restrict (by intro k hk hb; simp at hk hb; simp [hk, hb, h_4, h_5, h_9, q_15, q_16, q_17, q_18, q_19, q_20, q_21, q_22, h_24, hn_23 k (by simp [hk, hb])])⟩ <;> simp [restrict_env, restrict_mem, h_4, h_5, h_9, q_15, q_16, q_17, q_18, q_19, q_20, q_21, q_22, h_24]
            · intro s_32 σ_36 a_33 hI hp
              rw [I_34_] at hI
              obtain ⟨q_37, q_38, q_39, q_40, q_41, q_42, q_43, q_44, q_45, q_46, q_47, hn_48⟩ := hI
              try simp [h_4, h_5, h_9, h_24, q_37, q_38, q_39, q_40, q_41, q_42, q_43, q_44, q_45, q_46, q_47]
              rcases cond_cases hp with ⟨h_49, hp⟩ | ⟨h_49, hp⟩
              · try simp at h_49
                obtain ⟨e_50, h_51, hp⟩ := bind_some hp
                have b_52 := at_lo h_51
                have b_53 := at_hi h_51
                try simp at b_52
                try simp at b_53
                have c_54 := seg_at' h_51 0 1 (by decide) (ds := [.sc (.int .i64 e_50)]) rfl
                try simp at c_54
                obtain ⟨y_55, h_56, hp⟩ := bind_some hp
                have c_57 := C163_eq h_56
                simp at c_57
                obtain ⟨_, h_58, hp⟩ := bind_some hp
                have b_59 := room_ok h_58
                try simp at b_59
                obtain ⟨e_60, h_61, hp⟩ := bind_some hp
                cases Option.some.inj (h_51.symm.trans h_61)
                have b_62 := at_lo h_51
                have b_63 := at_hi h_51
                try simp at b_62
                try simp at b_63
                have c_64 := seg_at' h_51 0 1 (by decide) (ds := [.sc (.int .i64 e_50)]) rfl
                try simp at c_64
                obtain ⟨y_65, h_66, hp⟩ := bind_some hp
                have c_67 := C165_eq h_66
                simp at c_67
                obtain ⟨y_68, h_69, hp⟩ := bind_some hp
                have c_70 := C164_eq h_69
                simp at c_70
                obtain ⟨y_71, h_72, hp⟩ := bind_some hp
                have c_73 := C163_eq h_72
                simp at c_73
                obtain ⟨_, h_74, hp⟩ := bind_some hp
                have b_75 := room_ok h_74
                try simp at b_75
                cases hp
                try simp [h_4, h_5, h_9, h_24, q_37, q_38, q_39, q_40, q_41, q_42, q_43, q_44, q_45, q_46, q_47, h_49, b_52, b_53, c_54, c_57, b_59, b_62, b_63, c_64, c_67, c_70, c_73, b_75]
                refine goal_next ?_
                rw [I_34_]
                refine ⟨?_, ?_, ?_, ?_, ?_, ?_, ?_, ?_, ?_, ?_, ?_, NoBox.restrict (by intro k hk hb; simp at hk hb; simp [hk, hb, h_4, h_5, h_9, h_24, q_37, q_38, q_39, q_40, q_41, q_42, q_43, q_44, q_45, q_46, q_47, h_49, b_52, b_53, c_54, c_57, b_59, b_62, b_63, c_64, c_67, c_70, c_73, b_75, hn_48 k (by simp [hk, hb])])⟩ <;> simp [restrict_env, restrict_mem, h_4, h_5, h_9, h_24, q_37, q_38, q_39, q_40, q_41, q_42, q_43, q_44, q_45, q_46, q_47, h_49, b_52, b_53, c_54, c_57, b_59, b_62, b_63, c_64, c_67, c_70, c_73, b_75]
              · try simp at h_49
                cases hp
                try simp [h_4, h_5, h_9, h_24, q_37, q_38, q_39, q_40, q_41, q_42, q_43, q_44, q_45, q_46, q_47, h_49]
                refine goal_outX ?_
                rw [X_35_]
                refine ⟨_, rfl, ?_, ?_, ?_, ?_, ?_, ?_, ?_, ?_, ?_, ?_, NoBox.restrict (by intro k hk hb; simp at hk hb; simp [hk, hb, h_4, h_5, h_9, h_24, q_37, q_38, q_39, q_40, q_41, q_42, q_43, q_44, q_45, q_46, q_47, h_49, hn_48 k (by simp [hk, hb])])⟩ <;> simp [restrict_env, restrict_mem, h_4, h_5, h_9, h_24, q_37, q_38, q_39, q_40, q_41, q_42, q_43, q_44, q_45, q_46, q_47, h_49]
            · intro out hX
              rw [X_35_] at hX
              obtain ⟨σ_78, rfl, q_79, q_80, q_81, q_82, q_83, q_84, q_85, q_86, q_87, q_88, hn_89⟩ := hX
              obtain ⟨_, h_90, hp⟩ := bind_some hp
              have b_91 := room_ok h_90
              try simp at b_91
              try simp [h_4, h_5, h_9, h_24, q_79, q_80, q_81, q_82, q_83, q_84, q_85, q_86, q_87, q_88, b_91]
              obtain ⟨r_119, h_120, hp⟩ := bind_some hp
              obtain ⟨I_94, I_94_⟩ : ∃ I : Int × (List Int) → St → Prop, I = (fun (s_92 : Int × (List Int)) (σ : St) => σ.env 1 = .one (.ptr (1, 1) 0) ∧ σ.env 2 = .one (.ptr (1, 2) 0) ∧ σ.env 3 = .one (.s (.int .i64 (h_.next.length : Int))) ∧ σ.env 4 = .one (.ptr (1, 4) 0) ∧ σ.env 5 = .one (.s (.int .i64 s_10.1)) ∧ σ.env 8 = .one (.s (.int .i64 s_92.1)) ∧ σ.mem (1, 1) = some [(.l .shr h_.vars.length (encL h_.vars)), (.l .shr h_.next.length (encL h_.next))] ∧ σ.mem (1, 2) = some [(.l .own 0 []), (.l .own 0 [])] ∧ σ.mem (1, 4) = some [(.l .own (s_10.2.1 ++ [(⟨r_76.1, r_76.2, y_28, 0⟩ : TNode)]).length (encL (s_10.2.1 ++ [(⟨r_76.1, r_76.2, y_28, 0⟩ : TNode)]))), (.l .own s_92.2.length (encL s_92.2))] ∧ σ.mem (1, 6) = some [.dead, .dead, .dead, .dead] ∧ NoBox [(1, 1), (1, 2), (1, 4), (1, 6)] σ.mem) := ⟨_, rfl⟩
              obtain ⟨X_95, X_95_⟩ : ∃ X : (List Int) → Out → Prop, X = (fun (r_119 : (List Int)) (out : Out) => ∃ σ : St, out = .exit 4 σ ∧ σ.env 1 = .one (.ptr (1, 1) 0) ∧ σ.env 2 = .one (.ptr (1, 2) 0) ∧ σ.env 3 = .one (.s (.int .i64 (h_.next.length : Int))) ∧ σ.env 4 = .one (.ptr (1, 4) 0) ∧ σ.env 5 = .one (.s (.int .i64 s_10.1)) ∧ σ.mem (1, 1) = some [(.l .shr h_.vars.length (encL h_.vars)), (.l .shr h_.next.length (encL h_.next))] ∧ σ.mem (1, 2) = some [(.l .own 0 []), (.l .own 0 [])] ∧ σ.mem (1, 4) = some [(.l .own (s_10.2.1 ++ [(⟨r_76.1, r_76.2, y_28, 0⟩ : TNode)]).length (encL (s_10.2.1 ++ [(⟨r_76.1, r_76.2, y_28, 0⟩ : TNode)]))), (.l .own r_119.length (encL r_119))] ∧ σ.mem (1, 6) = some [.dead, .dead, .dead, .dead] ∧ NoBox [(1, 1), (1, 2), (1, 4), (1, 6)] σ.mem) := ⟨_, rfl⟩
              refine loopP ({ hd := [1, 2, 3, 4, 5, 8], bx := [], ex := [1, 2, 3, 4, 5], rt := [2] }) I_94 X_95 h_120 (by exact rfl) ?_ ?_ ?_
              · rw [I_94_]
                refine ⟨?_, ?_, ?_, ?_, ?_, ?_, ?_, ?_, ?_, ?_, NoBox.restrict (by intro k hk hb; simp at hk hb; simp [hk, hb, h_4, h_5, h_9, h_24, q_79, q_80, q_81, q_82, q_83, q_84, q_85, q_86, q_87, q_88, hn_89 k (by simp [hk, hb])])⟩ <;> simp [restrict_env, restrict_mem, h_4, h_5, h_9, h_24, q_79, q_80, q_81, q_82, q_83, q_84, q_85, q_86, q_87, q_88]
              · intro s_92 σ_96 a_93 hI hp
                rw [I_94_] at hI
                obtain ⟨q_97, q_98, q_99, q_100, q_101, q_102, q_103, q_104, q_105, q_106, hn_107⟩ := hI
                try simp [h_4, h_5, h_9, h_24, q_97, q_98, q_99, q_100, q_101, q_102, q_103, q_104, q_105, q_106]
                rcases cond_cases hp with ⟨h_108, hp⟩ | ⟨h_108, hp⟩
                · try simp at h_108
                  obtain ⟨e_109, h_110, hp⟩ := bind_some hp
                  have b_111 := at_lo h_110
                  have b_112 := at_hi h_110
                  try simp at b_111
                  try simp at b_112
                  have c_113 := seg_at' h_110 0 1 (by decide) (ds := [.sc (.int .i64 e_109)]) rfl
                  try simp at c_113
                  obtain ⟨y_114, h_115, hp⟩ := bind_some hp
                  have c_116 := C163_eq h_115
                  simp at c_116
                  obtain ⟨_, h_117, hp⟩ := bind_some hp
                  have b_118 := room_ok h_117
                  try simp at b_118
                  cases hp
                  try simp [h_4, h_5, h_9, h_24, q_97, q_98, q_99, q_100, q_101, q_102, q_103, q_104, q_105, q_106, h_108, b_111, b_112, c_113, c_116, b_118]
                  refine goal_next ?_
                  rw [I_94_]
                  refine ⟨?_, ?_, ?_, ?_, ?_, ?_, ?_, ?_, ?_, ?_, NoBox.restrict (by intro k hk hb; simp at hk hb; simp [hk, hb, h_4, h_5, h_9, h_24, q_97, q_98, q_99, q_100, q_101, q_102, q_103, q_104, q_105, q_106, h_108, b_111, b_112, c_113, c_116, b_118, hn_107 k (by simp [hk, hb])])⟩ <;> simp [restrict_env, restrict_mem, h_4, h_5, h_9, h_24, q_97, q_98, q_99, q_100, q_101, q_102, q_103, q_104, q_105, q_106, h_108, b_111, b_112, c_113, c_116, b_118]
                · try simp at h_108
                  cases hp
                  try simp [h_4, h_5, h_9, h_24, q_97, q_98, q_99, q_100, q_101, q_102, q_103, q_104, q_105, q_106, h_108]
                  refine goal_outX ?_
                  rw [X_95_]
                  refine ⟨_, rfl, ?_, ?_, ?_, ?_, ?_, ?_, ?_, ?_, ?_, NoBox.restrict (by intro k hk hb; simp at hk hb; simp [hk, hb, h_4, h_5, h_9, h_24, q_97, q_98, q_99, q_100, q_101, q_102, q_103, q_104, q_105, q_106, h_108, hn_107 k (by simp [hk, hb])])⟩ <;> simp [restrict_env, restrict_mem, h_4, h_5, h_9, h_24, q_97, q_98, q_99, q_100, q_101, q_102, q_103, q_104, q_105, q_106, h_108]
              · intro out hX
                rw [X_95_] at hX
                obtain ⟨σ_121, rfl, q_122, q_123, q_124, q_125, q_126, q_127, q_128, q_129, q_130, hn_131⟩ := hX
                cases hp
                try simp [h_4, h_5, h_9, h_24, q_122, q_123, q_124, q_125, q_126, q_127, q_128, q_129, q_130]
                refine goal_next ?_
                rw [I_12_]
                refine ⟨?_, ?_, ?_, ?_, ?_, ?_, ?_, ?_, NoBox.restrict (by intro k hk hb; simp at hk hb; simp [hk, hb, h_4, h_5, h_9, h_24, q_122, q_123, q_124, q_125, q_126, q_127, q_128, q_129, q_130, hn_131 k (by simp [hk, hb])])⟩ <;> simp [restrict_env, restrict_mem, h_4, h_5, h_9, h_24, q_122, q_123, q_124, q_125, q_126, q_127, q_128, q_129, q_130]
          · try simp at h_24
            cases hp
            try simp [h_4, h_5, h_9, q_15, q_16, q_17, q_18, q_19, q_20, q_21, q_22, h_24]
            refine goal_outX ?_
            rw [X_13_]
            refine ⟨_, rfl, ?_, ?_, ?_, ?_, ?_, NoBox.restrict (by intro k hk hb; simp at hk hb; simp [hk, hb, h_4, h_5, h_9, q_15, q_16, q_17, q_18, q_19, q_20, q_21, q_22, h_24, hn_23 k (by simp [hk, hb])])⟩ <;> simp [restrict_env, restrict_mem, h_4, h_5, h_9, q_15, q_16, q_17, q_18, q_19, q_20, q_21, q_22, h_24]
        · intro out hX
          rw [X_13_] at hX
          obtain ⟨σ_134, rfl, q_135, q_136, q_137, q_138, q_139, hn_140⟩ := hX
          cases hp
          simp [Goal, FnEnd, retR, rsrc, RSrc.val, nodupR, nodup, tupPart, h_4, h_5, h_9, q_135, q_136, q_137, q_138, q_139]
      · try simp at h_9
        cases hp
        simp [Goal, FnEnd, retR, rsrc, RSrc.val, nodupR, nodup, tupPart, h_4, h_5, h_9]
  · try simp at h_4
    cases hp
    simp [Goal, FnEnd, retR, rsrc, RSrc.val, nodupR, nodup, tupPart, h_4]
theorem pc99 : PC Try.prog 99 C99 := pc_of (g := g99) (ctxOK_of [(111, C111), (121, C121), (162, C162), (163, C163), (164, C164), (165, C165)] rfl ⟨pc111, pc121, pc162, pc163, pc164, pc165, trivial⟩) ⟨Try.f99, Try.func99, by kernel_rfl, by kernel_rfl⟩ fun x y h => w99 h

noncomputable def C110 : List AV → Option AV := specP (X := Int × Unit) fun x => spec_IsTruth x.1
theorem C110_eq {a_} {y} (h : spec_IsTruth a_ = some y) : C110 [av .shr a_] = some (Res.res y) := specP_eq (X := Int × Unit) (F := fun x => spec_IsTruth x.1) (x := (a_, ())) h
noncomputable def g110 : Cfg := { P := Try.prog, take := [], keep := [], gho := [], ctx := [(111, C111)] }
@[simp] theorem g110_P : g110.P = Try.prog := rfl
@[simp] theorem g110_t : g110.take = [] := rfl
@[simp] theorem g110_g : g110.gho = [] := rfl
@[simp] theorem g110_r : g110.ro = [] := rfl
@[simp] theorem g110_w : g110.away = [] := by rw [g110]
@[simp] theorem g110_111 : lookN 111 g110.ctx = some C111 := rfl
set_option maxHeartbeats 4000000 in
set_option maxRecDepth 100000 in
theorem w110 {a_} {y} (hp : spec_IsTruth a_ = some y) : ∃ m, callo g110 0 110 [av .shr a_] mem0 = some (Res.res y, m) := by
  refine start_fn (Try.f110.body.getD .skip) [.tmp 2] rfl rfl Try.func110 (by kernel_rfl) (by kernel_rfl) (by simp [Try.ntmps110]) rfl ?_
  unfold spec_IsTruth at hp
  obtain ⟨y_1, h_2, hp⟩ := bind_some hp
  have c_3 := C111_eq h_2
  simp at c_3
  cases hp
  simp [Try.f110, Goal, FnEnd, c_3]
theorem pc110 : PC Try.prog 110 C110 := pc_of (g := g110) (ctxOK_of [(111, C111)] rfl ⟨pc111, trivial⟩) ⟨Try.f110, Try.func110, by kernel_rfl, by kernel_rfl⟩ fun x y h => w110 h

noncomputable def C269 : List AV → Option AV := specP (X := Int × Int × Unit) fun x => spec_IsWithin x.1 x.2.1
theorem C269_eq {a_ b_} {y} (h : spec_IsWithin a_ b_ = some y) : C269 [av .shr a_, av .shr b_] = some (Res.res y) := specP_eq (X := Int × Int × Unit) (F := fun x => spec_IsWithin x.1 x.2.1) (x := (a_, b_, ())) h
noncomputable def g269 : Cfg := { P := Try.prog, take := [], keep := [], gho := [], ctx := [(110, C110)] }
@[simp] theorem g269_P : g269.P = Try.prog := rfl
@[simp] theorem g269_t : g269.take = [] := rfl
@[simp] theorem g269_g : g269.gho = [] := rfl
@[simp] theorem g269_r : g269.ro = [] := rfl
@[simp] theorem g269_w : g269.away = [] := by rw [g269]
@[simp] theorem g269_110 : lookN 110 g269.ctx = some C110 := rfl
set_option maxHeartbeats 4000000 in
set_option maxRecDepth 100000 in
theorem w269 {a_ b_} {y} (hp : spec_IsWithin a_ b_ = some y) : ∃ m, callo g269 0 269 [av .shr a_, av .shr b_] mem0 = some (Res.res y, m) := by
  refine start_fn (Try.f269.body.getD .skip) [.tmp 4] rfl rfl Try.func269 (by kernel_rfl) (by kernel_rfl) (by simp [Try.ntmps269]) rfl ?_
  unfold spec_IsWithin at hp
  obtain ⟨y_1, h_2, hp⟩ := bind_some hp
  have c_3 := C110_eq h_2
  simp at c_3
  simp [Try.f269, c_3]
  rcases cond_cases hp with ⟨h_4, hp⟩ | ⟨h_4, hp⟩
  · try simp at h_4
    obtain ⟨y_5, h_6, hp⟩ := bind_some hp
    have c_7 := C110_eq h_6
    simp at c_7
    try simp [h_4, c_7]
    rcases cond_cases hp with ⟨h_8, hp⟩ | ⟨h_8, hp⟩
    · try simp at h_8
      try simp [h_4, h_8]
      rcases cond_cases hp with ⟨h_9, hp⟩ | ⟨h_9, hp⟩
      · try simp at h_9
        cases hp
        simp [Goal, FnEnd, h_4, h_8, h_9]
      · try simp at h_9
        cases hp
        simp [Goal, FnEnd, h_4, h_8, h_9]
    · try simp at h_8
      cases hp
      simp [Goal, FnEnd, h_4, h_8]
  · try simp at h_4
    cases hp
    simp [Goal, FnEnd, h_4]
theorem pc269 : PC Try.prog 269 C269 := pc_of (g := g269) (ctxOK_of [(110, C110)] rfl ⟨pc110, trivial⟩) ⟨Try.f269, Try.func269, by kernel_rfl, by kernel_rfl⟩ fun x y h => w269 h

noncomputable def C271 : List AV → Option AV := specP (X := (List Int) × (List Int) × Unit) fun x => spec_l16Lists x.1 x.2.1
theorem C271_eq {a_ b_} {y} (h : spec_l16Lists a_ b_ = some y) : C271 [av .shr a_, av .shr b_] = some (Res.res y) := specP_eq (X := (List Int) × (List Int) × Unit) (F := fun x => spec_l16Lists x.1 x.2.1) (x := (a_, b_, ())) h
noncomputable def g271 : Cfg := { P := Try.prog, take := [], keep := [((271, 4), { hd := [0, 1, 5], bx := [], ex := [], rt := [4] })], gho := [], ctx := [(269, C269)] }
@[simp] theorem g271_P : g271.P = Try.prog := rfl
@[simp] theorem g271_t : g271.take = [] := rfl
@[simp] theorem g271_g : g271.gho = [] := rfl
@[simp] theorem g271_r : g271.ro = [] := rfl
@[simp] theorem g271_w : g271.away = [] := by rw [g271]
@[simp] theorem g271_269 : lookN 269 g271.ctx = some C269 := rfl
set_option maxHeartbeats 4000000 in
set_option maxRecDepth 100000 in
theorem w271 {a_ b_} {y} (hp : spec_l16Lists a_ b_ = some y) : ∃ m, callo g271 0 271 [av .shr a_, av .shr b_] mem0 = some (Res.res y, m) := by
  refine start_fn (Try.f271.body.getD .skip) [.tmp 4] rfl rfl Try.func271 (by kernel_rfl) (by kernel_rfl) (by simp [Try.ntmps271]) rfl ?_
  unfold spec_l16Lists at hp
  simp [Try.f271]
  rcases cond_cases hp with ⟨h_1, hp⟩ | ⟨h_1, hp⟩
  · try simp at h_1
    cases hp
    simp [Goal, FnEnd, h_1]
  · try simp at h_1
    try simp [h_1]
    obtain ⟨r_26, h_27, hp⟩ := bind_some hp
    obtain ⟨I_4, I_4_⟩ : ∃ I : Int → St → Prop, I = (fun (s_2 : Int) (σ : St) => σ.env 0 = .one (.l .shr a_.length (encL a_)) ∧ σ.env 1 = .one (.l .shr b_.length (encL b_)) ∧ σ.env 5 = .one (.s (.int .i64 s_2)) ∧ σ.mem = mem0) := ⟨_, rfl⟩
    obtain ⟨X_5, X_5_⟩ : ∃ X : ((Unit) ⊕ (Unit)) → Out → Prop, X = (fun (r_26 : (Unit) ⊕ (Unit)) (out : Out) => Sum.elim (fun r_26 => ∃ σ : St, out = .ret σ ∧ σ.env 4 = .one (.s (.bool false)) ∧ σ.mem = mem0) (fun r_26 => ∃ σ : St, out = .exit 0 σ ∧ σ.mem = mem0) r_26) := ⟨_, rfl⟩
    refine loopP ({ hd := [0, 1, 5], bx := [], ex := [], rt := [4] }) I_4 X_5 h_27 (by exact rfl) ?_ ?_ ?_
    · rw [I_4_]
      refine ⟨?_, ?_, ?_, ?_⟩ <;> simp [restrict_env, restrict_mem, h_1]
    · intro s_2 σ_6 a_3 hI hp
      rw [I_4_] at hI
      obtain ⟨q_7, q_8, q_9, q_10⟩ := hI
      try simp [h_1, q_7, q_8, q_9, q_10]
      rcases cond_cases hp with ⟨h_11, hp⟩ | ⟨h_11, hp⟩
      · try simp at h_11
        obtain ⟨e_12, h_13, hp⟩ := bind_some hp
        have b_14 := at_lo h_13
        have b_15 := at_hi h_13
        try simp at b_14
        try simp at b_15
        have c_16 := seg_at' h_13 0 1 (by decide) (ds := [.sc (.int .i64 e_12)]) rfl
        try simp at c_16
        obtain ⟨e_17, h_18, hp⟩ := bind_some hp
        have b_19 := at_lo h_18
        have b_20 := at_hi h_18
        try simp at b_19
        try simp at b_20
        have c_21 := seg_at' h_18 0 1 (by decide) (ds := [.sc (.int .i64 e_17)]) rfl
        try simp at c_21
        obtain ⟨y_22, h_23, hp⟩ := bind_some hp
        have c_24 := C269_eq h_23
        simp at c_24
        try simp [h_1, q_7, q_8, q_9, q_10, h_11, b_14, b_15, c_16, b_19, b_20, c_21, c_24]
        rcases cond_cases hp with ⟨h_25, hp⟩ | ⟨h_25, hp⟩
        · try simp at h_25
          cases hp
          try simp [h_1, q_7, q_8, q_9, q_10, h_11, h_25]
          refine goal_next ?_
          rw [I_4_]
          refine ⟨?_, ?_, ?_, ?_⟩ <;> simp [restrict_env, restrict_mem, h_1, q_7, q_8, q_9, q_10, h_11, h_25]
        · try simp at h_25
          cases hp
          try simp [h_1, q_7, q_8, q_9, q_10, h_11, h_25]
          refine goal_outR ?_
          rw [X_5_]
          refine ⟨_, rfl, ?_, ?_⟩ <;> simp [restrict_env, restrict_mem, h_1, q_7, q_8, q_9, q_10, h_11, h_25]
      · try simp at h_11
        cases hp
        try simp [h_1, q_7, q_8, q_9, q_10, h_11]
        refine goal_outX ?_
        rw [X_5_]
        exact ⟨_, rfl, by simp [restrict_mem, h_1, q_7, q_8, q_9, q_10, h_11]⟩
    · intro out hX
      rw [X_5_] at hX
      rcases r_26 with r_26 | r_26
      · simp only [Sum.elim_inl, Sum.elim_inr] at hX hp
        obtain ⟨σ_28, rfl, q_29, q_30⟩ := hX
        cases hp
        simp [Goal, FnEnd, h_1, q_29, q_30]
      · simp only [Sum.elim_inl, Sum.elim_inr] at hX hp
        obtain ⟨σ_31, rfl, q_32⟩ := hX
        cases hp
        simp [Goal, FnEnd, h_1, q_32]
theorem pc271 : PC Try.prog 271 C271 := pc_of (g := g271) (ctxOK_of [(269, C269)] rfl ⟨pc269, trivial⟩) ⟨Try.f271, Try.func271, by kernel_rfl, by kernel_rfl⟩ fun x y h => w271 h

noncomputable def C268 : List AV → Option AV := specP (X := TNode × TNode × Unit) fun x => spec_l16Node x.1 x.2.1
theorem C268_eq {x_ y_} {y} (h : spec_l16Node x_ y_ = some y) : C268 [av .shr x_, av .shr y_] = some (Res.res y) := specP_eq (X := TNode × TNode × Unit) (F := fun x => spec_l16Node x.1 x.2.1) (x := (x_, y_, ())) h
noncomputable def g268 : Cfg := { P := Try.prog, take := [], keep := [], gho := [], ctx := [(269, C269), (271, C271)] }
@[simp] theorem g268_P : g268.P = Try.prog := rfl
@[simp] theorem g268_t : g268.take = [] := rfl
@[simp] theorem g268_g : g268.gho = [] := rfl
@[simp] theorem g268_r : g268.ro = [] := rfl
@[simp] theorem g268_w : g268.away = [] := by rw [g268]
@[simp] theorem g268_269 : lookN 269 g268.ctx = some C269 := rfl
@[simp] theorem g268_271 : lookN 271 g268.ctx = some C271 := rfl
set_option maxHeartbeats 4000000 in
set_option maxRecDepth 100000 in
theorem w268 {x_ y_} {y} (hp : spec_l16Node x_ y_ = some y) : ∃ m, callo g268 0 268 [av .shr x_, av .shr y_] mem0 = some (Res.res y, m) := by
  refine start_fn (Try.f268.body.getD .skip) [.tmp 4] rfl rfl Try.func268 (by kernel_rfl) (by kernel_rfl) (by simp [Try.ntmps268]) rfl ?_
  unfold spec_l16Node at hp
  obtain ⟨y_1, h_2, hp⟩ := bind_some hp
  have c_3 := C271_eq h_2
  simp at c_3
  simp [Try.f268, c_3]
  rcases cond_cases hp with ⟨h_4, hp⟩ | ⟨h_4, hp⟩
  · try simp at h_4
    obtain ⟨y_5, h_6, hp⟩ := bind_some hp
    have c_7 := C271_eq h_6
    simp at c_7
    try simp [h_4, c_7]
    rcases cond_cases hp with ⟨h_8, hp⟩ | ⟨h_8, hp⟩
    · try simp at h_8
      obtain ⟨y_9, h_10, hp⟩ := bind_some hp
      have c_11 := C269_eq h_10
      simp at c_11
      try simp [h_4, h_8, c_11]
      rcases cond_cases hp with ⟨h_12, hp⟩ | ⟨h_12, hp⟩
      · try simp at h_12
        obtain ⟨y_13, h_14, hp⟩ := bind_some hp
        have c_15 := C269_eq h_14
        simp at c_15
        cases hp
        simp [Goal, FnEnd, h_4, h_8, h_12, c_15]
      · try simp at h_12
        cases hp
        simp [Goal, FnEnd, h_4, h_8, h_12]
    · try simp at h_8
      cases hp
      simp [Goal, FnEnd, h_4, h_8]
  · try simp at h_4
    cases hp
    simp [Goal, FnEnd, h_4]
theorem pc268 : PC Try.prog 268 C268 := pc_of (g := g268) (ctxOK_of [(269, C269), (271, C271)] rfl ⟨pc269, pc271, trivial⟩) ⟨Try.f268, Try.func268, by kernel_rfl, by kernel_rfl⟩ fun x y h => w268 h

noncomputable def C116 : List AV → Option AV := specP (X := TStructure × Int × Int × Unit) fun x => spec_NextOf x.1 x.2.1 x.2.2.1
theorem C116_eq {s i j} {y} (h : spec_NextOf s i j = some y) : C116 [av .shr s, av .shr i, av .shr j] = some (Res.res y) := specP_eq (X := TStructure × Int × Int × Unit) (F := fun x => spec_NextOf x.1 x.2.1 x.2.2.1) (x := (s, i, j, ())) h
noncomputable def g116 : Cfg := { P := Try.prog, take := [], keep := [], gho := [], ctx := [(111, C111)] }
@[simp] theorem g116_P : g116.P = Try.prog := rfl
@[simp] theorem g116_t : g116.take = [] := rfl
@[simp] theorem g116_g : g116.gho = [] := rfl
@[simp] theorem g116_r : g116.ro = [] := rfl
@[simp] theorem g116_w : g116.away = [] := by rw [g116]
@[simp] theorem g116_111 : lookN 111 g116.ctx = some C111 := rfl
set_option maxHeartbeats 4000000 in
set_option maxRecDepth 100000 in
theorem w116 {s i j} {y} (hp : spec_NextOf s i j = some y) : ∃ m, callo g116 0 116 [av .shr s, av .shr i, av .shr j] mem0 = some (Res.res y, m) := by
  refine start_fn (Try.f116.body.getD .skip) [.tmp 6] rfl rfl Try.func116 (by kernel_rfl) (by kernel_rfl) (by simp [Try.ntmps116]) rfl ?_
  unfold spec_NextOf at hp
  obtain ⟨y_1, h_2, hp⟩ := bind_some hp
  have c_3 := C111_eq h_2
  simp at c_3
  simp [Try.f116, c_3]
  rcases cond_cases hp with ⟨h_4, hp⟩ | ⟨h_4, hp⟩
  · try simp at h_4
    obtain ⟨y_5, h_6, hp⟩ := bind_some hp
    have c_7 := C111_eq h_6
    simp at c_7
    try simp [h_4, c_7]
    rcases cond_cases hp with ⟨h_8, hp⟩ | ⟨h_8, hp⟩
    · try simp at h_8
      try simp [h_4, h_8]
      rcases cond_cases hp with ⟨h_9, hp⟩ | ⟨h_9, hp⟩
      · try simp at h_9
        cases hp
        simp [Goal, FnEnd, h_4, h_8, h_9]
      · try simp at h_9
        obtain ⟨e_10, h_11, hp⟩ := bind_some hp
        have b_12 := at_lo h_11
        have b_13 := at_hi h_11
        try simp at b_12
        try simp at b_13
        have c_14 := seg_at' h_11 0 1 (by decide) (ds := [.sc (.int .i64 e_10)]) rfl
        try simp at c_14
        cases hp
        simp [Goal, FnEnd, h_4, h_8, h_9, b_12, b_13, c_14]
    · try simp at h_8
      cases hp
      simp [Goal, FnEnd, h_4, h_8]
  · try simp at h_4
    cases hp
    simp [Goal, FnEnd, h_4]
theorem pc116 : PC Try.prog 116 C116 := pc_of (g := g116) (ctxOK_of [(111, C111)] rfl ⟨pc111, trivial⟩) ⟨Try.f116, Try.func116, by kernel_rfl, by kernel_rfl⟩ fun x y h => w116 h

noncomputable def C265 : List AV → Option AV := specP (X := TStructure × TStructure × (List Int) × Unit) fun x => spec_l16Fits x.1 x.2.1 x.2.2.1
theorem C265_eq {s t to_} {y} (h : spec_l16Fits s t to_ = some y) : C265 [av .shr s, av .shr t, av .shr to_] = some (Res.res y) := specP_eq (X := TStructure × TStructure × (List Int) × Unit) (F := fun x => spec_l16Fits x.1 x.2.1 x.2.2.1) (x := (s, t, to_, ())) h
noncomputable def g265 : Cfg := { P := Try.prog, take := [], keep := [((265, 5), { hd := [2, 3, 4, 7, 8], bx := [], ex := [], rt := [6] })], gho := [], ctx := [(116, C116), (268, C268), (269, C269)] }
@[simp] theorem g265_P : g265.P = Try.prog := rfl
@[simp] theorem g265_t : g265.take = [] := rfl
@[simp] theorem g265_g : g265.gho = [] := rfl
@[simp] theorem g265_r : g265.ro = [] := rfl
@[simp] theorem g265_w : g265.away = [] := by rw [g265]
@[simp] theorem g265_116 : lookN 116 g265.ctx = some C116 := rfl
@[simp] theorem g265_268 : lookN 268 g265.ctx = some C268 := rfl
@[simp] theorem g265_269 : lookN 269 g265.ctx = some C269 := rfl
set_option maxHeartbeats 4000000 in
set_option maxRecDepth 100000 in
theorem w265 {s t to_} {y} (hp : spec_l16Fits s t to_ = some y) : ∃ m, callo g265 0 265 [av .shr s, av .shr t, av .shr to_] mem0 = some (Res.res y, m) := by
  refine start_fn (Try.f265.body.getD .skip) [.tmp 6] rfl rfl Try.func265 (by kernel_rfl) (by kernel_rfl) (by simp [Try.ntmps265]) rfl ?_
  unfold spec_l16Fits at hp
  obtain ⟨e_1, h_2, hp⟩ := bind_some hp
  have b_3 := at_lo h_2
  have b_4 := at_hi h_2
  try simp at b_3
  try simp at b_4
  have c_5 := seg_at' h_2 0 4 (by decide) (ds := [.sl e_1.vars.length (encL e_1.vars), .sl e_1.reach.length (encL e_1.reach), .sc (.int .i64 e_1.shared), .sc (.int .i64 e_1.many)]) rfl
  try simp at c_5
  obtain ⟨e_6, h_7, hp⟩ := bind_some hp
  have b_8 := at_lo h_7
  have b_9 := at_hi h_7
  try simp at b_8
  try simp at b_9
  have c_10 := seg_at' h_7 0 1 (by decide) (ds := [.sc (.int .i64 e_6)]) rfl
  try simp at c_10
  obtain ⟨e_11, h_12, hp⟩ := bind_some hp
  have b_13 := at_lo h_12
  have b_14 := at_hi h_12
  try simp at b_13
  try simp at b_14
  have c_15 := seg_at' h_12 0 4 (by decide) (ds := [.sl e_11.vars.length (encL e_11.vars), .sl e_11.reach.length (encL e_11.reach), .sc (.int .i64 e_11.shared), .sc (.int .i64 e_11.many)]) rfl
  try simp at c_15
  obtain ⟨y_16, h_17, hp⟩ := bind_some hp
  have c_18 := C268_eq h_17
  simp at c_18
  simp [Try.f265, b_3, b_4, c_5, b_8, b_9, c_10, b_13, b_14, c_15, c_18]
  rcases cond_cases hp with ⟨h_19, hp⟩ | ⟨h_19, hp⟩
  · try simp at h_19
    try simp [h_19]
    obtain ⟨r_97, h_98, hp⟩ := bind_some hp
    obtain ⟨I_22, I_22_⟩ : ∃ I : Int → St → Prop, I = (fun (s_20 : Int) (σ : St) => σ.env 2 = .one (.l .shr to_.length (encL to_)) ∧ σ.env 3 = .one (.ptr (1, 3) 0) ∧ σ.env 4 = .one (.ptr (1, 4) 0) ∧ σ.env 7 = .one (.s (.int .i64 (subI (to_.length : Int) 1))) ∧ σ.env 8 = .one (.s (.int .i64 s_20)) ∧ σ.mem (1, 3) = some [(.l .shr s.nodes.length (encL s.nodes)), (.l .shr s.next.length (encL s.next))] ∧ σ.mem (1, 4) = some [(.l .shr t.nodes.length (encL t.nodes)), (.l .shr t.next.length (encL t.next))] ∧ NoBox [(1, 3), (1, 4)] σ.mem) := ⟨_, rfl⟩
    obtain ⟨X_23, X_23_⟩ : ∃ X : ((Unit) ⊕ (Unit)) → Out → Prop, X = (fun (r_97 : (Unit) ⊕ (Unit)) (out : Out) => Sum.elim (fun r_97 => ∃ σ : St, out = .ret σ ∧ σ.env 6 = .one (.s (.bool false)) ∧ σ.mem (1, 3) = some [(.l .shr s.nodes.length (encL s.nodes)), (.l .shr s.next.length (encL s.next))] ∧ σ.mem (1, 4) = some [(.l .shr t.nodes.length (encL t.nodes)), (.l .shr t.next.length (encL t.next))] ∧ NoBox [(1, 3), (1, 4)] σ.mem) (fun r_97 => ∃ σ : St, out = .exit 0 σ ∧ σ.mem (1, 3) = some [(.l .shr s.nodes.length (encL s.nodes)), (.l .shr s.next.length (encL s.next))] ∧ σ.mem (1, 4) = some [(.l .shr t.nodes.length (encL t.nodes)), (.l .shr t.next.length (encL t.next))] ∧ NoBox [(1, 3), (1, 4)] σ.mem) r_97) := ⟨_, rfl⟩
    refine loopP ({ hd := [2, 3, 4, 7, 8], bx := [], ex := [], rt := [6] }) I_22 X_23 h_98 (by exact rfl) ?_ ?_ ?_
    · rw [I_22_]
      refine ⟨?_, ?_, ?_, ?_, ?_, ?_, ?_, NoBox.restrict (by intro k hk hb; simp at hk hb; simp [hk, hb, h_19])⟩ <;> simp [restrict_env, restrict_mem, h_19]
    · intro s_20 σ_24 a_21 hI hp
      rw [I_22_] at hI
      obtain ⟨q_25, q_26, q_27, q_28, q_29, q_30, q_31, hn_32⟩ := hI
      try simp [h_19, q_25, q_26, q_27, q_28, q_29, q_30, q_31]
      rcases cond_cases hp with ⟨h_33, hp⟩ | ⟨h_33, hp⟩
      · try simp at h_33
        obtain ⟨y_34, h_35, hp⟩ := bind_some hp
        have c_36 := C116_eq h_35
        simp at c_36
        obtain ⟨e_37, h_38, hp⟩ := bind_some hp
        cases Option.some.inj (h_7.symm.trans h_38)
        have b_39 := at_lo h_7
        have b_40 := at_hi h_7
        try simp at b_39
        try simp at b_40
        have c_41 := seg_at' h_7 0 1 (by decide) (ds := [.sc (.int .i64 e_6)]) rfl
        try simp at c_41
        obtain ⟨e_42, h_43, hp⟩ := bind_some hp
        have b_44 := at_lo h_43
        have b_45 := at_hi h_43
        try simp at b_44
        try simp at b_45
        have c_46 := seg_at' h_43 0 1 (by decide) (ds := [.sc (.int .i64 e_42)]) rfl
        try simp at c_46
        obtain ⟨y_47, h_48, hp⟩ := bind_some hp
        have c_49 := C116_eq h_48
        simp at c_49
        obtain ⟨y_50, h_51, hp⟩ := bind_some hp
        have c_52 := C269_eq h_51
        simp at c_52
        try simp [h_19, q_25, q_26, q_27, q_28, q_29, q_30, q_31, h_33, c_36, b_39, b_40, c_41, b_44, b_45, c_46, c_49, c_52]
        rcases cond_cases hp with ⟨h_53, hp⟩ | ⟨h_53, hp⟩
        · try simp at h_53
          obtain ⟨y_54, h_55, hp⟩ := bind_some hp
          have c_56 := C116_eq h_55
          simp at c_56
          obtain ⟨e_57, h_58, hp⟩ := bind_some hp
          cases Option.some.inj (h_43.symm.trans h_58)
          have b_59 := at_lo h_43
          have b_60 := at_hi h_43
          try simp at b_59
          try simp at b_60
          have c_61 := seg_at' h_43 0 1 (by decide) (ds := [.sc (.int .i64 e_42)]) rfl
          try simp at c_61
          obtain ⟨e_62, h_63, hp⟩ := bind_some hp
          cases Option.some.inj (h_7.symm.trans h_63)
          have b_64 := at_lo h_7
          have b_65 := at_hi h_7
          try simp at b_64
          try simp at b_65
          have c_66 := seg_at' h_7 0 1 (by decide) (ds := [.sc (.int .i64 e_6)]) rfl
          try simp at c_66
          obtain ⟨y_67, h_68, hp⟩ := bind_some hp
          have c_69 := C116_eq h_68
          simp at c_69
          obtain ⟨y_70, h_71, hp⟩ := bind_some hp
          have c_72 := C269_eq h_71
          simp at c_72
          try simp [h_19, q_25, q_26, q_27, q_28, q_29, q_30, q_31, h_33, h_53, c_56, b_59, b_60, c_61, b_64, b_65, c_66, c_69, c_72]
          rcases cond_cases hp with ⟨h_73, hp⟩ | ⟨h_73, hp⟩
          · try simp at h_73
            try simp [h_19, q_25, q_26, q_27, q_28, q_29, q_30, q_31, h_33, h_53, h_73]
            rcases cond_cases hp with ⟨h_74, hp⟩ | ⟨h_74, hp⟩
            · try simp at h_74
              obtain ⟨e_75, h_76, hp⟩ := bind_some hp
              cases Option.some.inj (h_43.symm.trans h_76)
              have b_77 := at_lo h_43
              have b_78 := at_hi h_43
              try simp at b_77
              try simp at b_78
              have c_79 := seg_at' h_43 0 1 (by decide) (ds := [.sc (.int .i64 e_42)]) rfl
              try simp at c_79
              obtain ⟨e_80, h_81, hp⟩ := bind_some hp
              cases Option.some.inj (h_7.symm.trans h_81)
              have b_82 := at_lo h_7
              have b_83 := at_hi h_7
              try simp at b_82
              try simp at b_83
              have c_84 := seg_at' h_7 0 1 (by decide) (ds := [.sc (.int .i64 e_6)]) rfl
              try simp at c_84
              try simp [h_19, q_25, q_26, q_27, q_28, q_29, q_30, q_31, h_33, h_53, h_73, h_74, b_77, b_78, c_79, b_82, b_83, c_84]
              rcases cond_cases hp with ⟨h_85, hp⟩ | ⟨h_85, hp⟩
              · try simp at h_85
                obtain ⟨e_86, h_87, hp⟩ := bind_some hp
                cases Option.some.inj (h_7.symm.trans h_87)
                have b_88 := at_lo h_7
                have b_89 := at_hi h_7
                try simp at b_88
                try simp at b_89
                have c_90 := seg_at' h_7 0 1 (by decide) (ds := [.sc (.int .i64 e_6)]) rfl
                try simp at c_90
                obtain ⟨e_91, h_92, hp⟩ := bind_some hp
                cases Option.some.inj (h_12.symm.trans h_92)
                have b_93 := at_lo h_12
                have b_94 := at_hi h_12
                try simp at b_93
                try simp at b_94
                have c_95 := seg_at' h_12 3 1 (by decide) (ds := [.sc (.int .i64 e_11.many)]) rfl
                try simp at c_95
                try simp [h_19, q_25, q_26, q_27, q_28, q_29, q_30, q_31, h_33, h_53, h_73, h_74, h_85, b_88, b_89, c_90, b_93, b_94, c_95]
                rcases cond_cases hp with ⟨h_96, hp⟩ | ⟨h_96, hp⟩
                · try simp at h_96
                  cases hp
                  try simp [h_19, q_25, q_26, q_27, q_28, q_29, q_30, q_31, h_33, h_53, h_73, h_74, h_85, h_96]
                  refine goal_outR ?_
                  rw [X_23_]
                  refine ⟨_, rfl, ?_, ?_, ?_, NoBox.restrict (by intro k hk hb; simp at hk hb; simp [hk, hb, h_19, q_25, q_26, q_27, q_28, q_29, q_30, q_31, h_33, h_53, h_73, h_74, h_85, h_96, hn_32 k (by simp [hk, hb])])⟩ <;> simp [restrict_env, restrict_mem, h_19, q_25, q_26, q_27, q_28, q_29, q_30, q_31, h_33, h_53, h_73, h_74, h_85, h_96]
                · try simp at h_96
                  cases hp
                  try simp [h_19, q_25, q_26, q_27, q_28, q_29, q_30, q_31, h_33, h_53, h_73, h_74, h_85, h_96]
                  refine goal_next ?_
                  rw [I_22_]
                  refine ⟨?_, ?_, ?_, ?_, ?_, ?_, ?_, NoBox.restrict (by intro k hk hb; simp at hk hb; simp [hk, hb, h_19, q_25, q_26, q_27, q_28, q_29, q_30, q_31, h_33, h_53, h_73, h_74, h_85, h_96, hn_32 k (by simp [hk, hb])])⟩ <;> simp [restrict_env, restrict_mem, h_19, q_25, q_26, q_27, q_28, q_29, q_30, q_31, h_33, h_53, h_73, h_74, h_85, h_96]
              · try simp at h_85
                cases hp
                try simp [h_19, q_25, q_26, q_27, q_28, q_29, q_30, q_31, h_33, h_53, h_73, h_74, h_85]
                refine goal_next ?_
                rw [I_22_]
                refine ⟨?_, ?_, ?_, ?_, ?_, ?_, ?_, NoBox.restrict (by intro k hk hb; simp at hk hb; simp [hk, hb, h_19, q_25, q_26, q_27, q_28, q_29, q_30, q_31, h_33, h_53, h_73, h_74, h_85, hn_32 k (by simp [hk, hb])])⟩ <;> simp [restrict_env, restrict_mem, h_19, q_25, q_26, q_27, q_28, q_29, q_30, q_31, h_33, h_53, h_73, h_74, h_85]
            · try simp at h_74
              cases hp
              try simp [h_19, q_25, q_26, q_27, q_28, q_29, q_30, q_31, h_33, h_53, h_73, h_74]
              refine goal_next ?_
              rw [I_22_]
              refine ⟨?_, ?_, ?_, ?_, ?_, ?_, ?_, NoBox.restrict (by intro k hk hb; simp at hk hb; simp [hk, hb, h_19, q_25, q_26, q_27, q_28, q_29, q_30, q_31, h_33, h_53, h_73, h_74, hn_32 k (by simp [hk, hb])])⟩ <;> simp [restrict_env, restrict_mem, h_19, q_25, q_26, q_27, q_28, q_29, q_30, q_31, h_33, h_53, h_73, h_74]
          · try simp at h_73
            cases hp
            try simp [h_19, q_25, q_26, q_27, q_28, q_29, q_30, q_31, h_33, h_53, h_73]
            refine goal_outR ?_
            rw [X_23_]
            refine ⟨_, rfl, ?_, ?_, ?_, NoBox.restrict (by intro k hk hb; simp at hk hb; simp [hk, hb, h_19, q_25, q_26, q_27, q_28, q_29, q_30, q_31, h_33, h_53, h_73, hn_32 k (by simp [hk, hb])])⟩ <;> simp [restrict_env, restrict_mem, h_19, q_25, q_26, q_27, q_28, q_29, q_30, q_31, h_33, h_53, h_73]
        · try simp at h_53
          cases hp
          try simp [h_19, q_25, q_26, q_27, q_28, q_29, q_30, q_31, h_33, h_53]
          refine goal_outR ?_
          rw [X_23_]
          refine ⟨_, rfl, ?_, ?_, ?_, NoBox.restrict (by intro k hk hb; simp at hk hb; simp [hk, hb, h_19, q_25, q_26, q_27, q_28, q_29, q_30, q_31, h_33, h_53, hn_32 k (by simp [hk, hb])])⟩ <;> simp [restrict_env, restrict_mem, h_19, q_25, q_26, q_27, q_28, q_29, q_30, q_31, h_33, h_53]
      · try simp at h_33
        cases hp
        try simp [h_19, q_25, q_26, q_27, q_28, q_29, q_30, q_31, h_33]
        refine goal_outX ?_
        rw [X_23_]
        refine ⟨_, rfl, ?_, ?_, NoBox.restrict (by intro k hk hb; simp at hk hb; simp [hk, hb, h_19, q_25, q_26, q_27, q_28, q_29, q_30, q_31, h_33, hn_32 k (by simp [hk, hb])])⟩ <;> simp [restrict_env, restrict_mem, h_19, q_25, q_26, q_27, q_28, q_29, q_30, q_31, h_33]
    · intro out hX
      rw [X_23_] at hX
      rcases r_97 with r_97 | r_97
      · simp only [Sum.elim_inl, Sum.elim_inr] at hX hp
        obtain ⟨σ_99, rfl, q_100, q_101, q_102, hn_103⟩ := hX
        cases hp
        simp [Goal, FnEnd, h_19, q_100, q_101, q_102]
      · simp only [Sum.elim_inl, Sum.elim_inr] at hX hp
        obtain ⟨σ_104, rfl, q_105, q_106, hn_107⟩ := hX
        cases hp
        simp [Goal, FnEnd, h_19, q_105, q_106]
  · try simp at h_19
    cases hp
    simp [Goal, FnEnd, h_19]
theorem pc265 : PC Try.prog 265 C265 := pc_of (g := g265) (ctxOK_of [(116, C116), (268, C268), (269, C269)] rfl ⟨pc116, pc268, pc269, trivial⟩) ⟨Try.f265, Try.func265, by kernel_rfl, by kernel_rfl⟩ fun x y h => w265 h
end Go.Proofs

