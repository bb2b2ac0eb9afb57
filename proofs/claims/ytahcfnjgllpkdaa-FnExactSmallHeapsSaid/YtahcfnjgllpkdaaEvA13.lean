import Derived.Test.YtahcfnjgllpkdaaEvA12
set_option linter.unusedSimpArgs false
set_option linter.unusedVariables false
set_option linter.unnecessarySimpa false
namespace Go.Proofs
open Go.Ev
noncomputable def C49 : List AV → Option AV := specP (X := Int × Int × Int × Unit) fun x => impl_within x.1 x.2.1 x.2.2.1
theorem C49_eq {n_ low high} {y} (h : impl_within n_ low high = some y) : C49 [av .shr n_, av .shr low, av .shr high] = some (Res.res y) := specP_eq (X := Int × Int × Int × Unit) (F := fun x => impl_within x.1 x.2.1 x.2.2.1) (x := (n_, low, high, ())) h
noncomputable def g49 : Cfg := { P := Try.prog, take := [], keep := [], gho := [], ctx := [] }
@[simp] theorem g49_P : g49.P = Try.prog := rfl
@[simp] theorem g49_t : g49.take = [] := rfl
@[simp] theorem g49_g : g49.gho = [] := rfl
set_option maxHeartbeats 4000000 in
set_option maxRecDepth 100000 in
theorem w49 {n_ low high} {y} (hp : impl_within n_ low high = some y) : ∃ m, callo g49 0 49 [av .shr n_, av .shr low, av .shr high] mem0 = some (Res.res y, m) := by
  refine start_fn (Try.f49.body.getD .skip) [.tmp 6] rfl rfl Try.func49 (by kernel_rfl) (by kernel_rfl) (by simp [Try.ntmps49]) rfl ?_
  unfold impl_within at hp
  simp [Try.f49]
  rcases cond_cases hp with ⟨h_1, hp⟩ | ⟨h_1, hp⟩
  · try simp at h_1
    cases hp
    simp [Goal, FnEnd, h_1]
  · try simp at h_1
    cases hp
    simp [Goal, FnEnd, h_1]
theorem pc49 : PC Try.prog 49 C49 := pc_of (g := g49) (fun f F h => by cases h) ⟨Try.f49, Try.func49, by kernel_rfl, by kernel_rfl⟩ fun x y h => w49 h

noncomputable def C50 : List AV → Option AV := specP (X := Int × Int × Unit) fun x => impl_lists x.1 x.2.1
theorem C50_eq {many bound} {y} (h : impl_lists many bound = some y) : C50 [av .shr many, av .shr bound] = some (Res.res y) := specP_eq (X := Int × Int × Unit) (F := fun x => impl_lists x.1 x.2.1) (x := (many, bound, ())) h
noncomputable def g50 : Cfg := { P := Try.prog, take := [(50, 27), (50, 36), (50, 38)], keep := [((50, 3), { hd := [1, 5, 12, 13], bx := [], ex := [5], rt := [4] }), ((50, 6), { hd := [1, 6, 12, 13, 16, 17, 18], bx := [], ex := [1, 6, 12, 13], rt := [4] }), ((50, 9), { hd := [1, 6, 8, 9, 12, 13, 16, 17, 18], bx := [], ex := [1, 6, 12, 13, 16, 17, 18], rt := [4] })], gho := [], ctx := [(106, C106)] }
@[simp] theorem g50_P : g50.P = Try.prog := rfl
@[simp] theorem g50_t : g50.take = [(50, 27), (50, 36), (50, 38)] := rfl
@[simp] theorem g50_g : g50.gho = [] := rfl
@[simp] theorem g50_106 : lookN 106 g50.ctx = some C106 := rfl
set_option maxHeartbeats 4000000 in
set_option maxRecDepth 100000 in
theorem w50 {many bound} {y} (hp : impl_lists many bound = some y) : ∃ m, callo g50 0 50 [av .shr many, av .shr bound] mem0 = some (Res.res y, m) := by
  refine start_fn (Try.f50.body.getD .skip) [.tmp 4] rfl rfl Try.func50 (by kernel_rfl) (by kernel_rfl) (by simp [Try.ntmps50]) rfl ?_
  unfold impl_lists at hp
  simp [Try.f50]
  obtain ⟨r_73, h_74, hp⟩ := bind_some hp
  obtain ⟨I_3, I_3_⟩ : ∃ I : (List (List Int)) × Int → St → Prop, I = (fun (s_1 : (List (List Int)) × Int) (σ : St) => σ.env 1 = .one (.s (.int .i64 bound)) ∧ σ.env 5 = .one (.l .own s_1.1.length (encL s_1.1)) ∧ σ.env 12 = .one (.s (.int .i64 many)) ∧ σ.env 13 = .one (.s (.int .i64 s_1.2)) ∧ σ.mem = mem0) := ⟨_, rfl⟩
  obtain ⟨X_4, X_4_⟩ : ∃ X : (List (List Int)) → Out → Prop, X = (fun (r_73 : (List (List Int))) (out : Out) => ∃ σ : St, out = .exit 0 σ ∧ σ.env 5 = .one (.l .own r_73.length (encL r_73)) ∧ σ.mem = mem0) := ⟨_, rfl⟩
  refine loopP ({ hd := [1, 5, 12, 13], bx := [], ex := [5], rt := [4] }) I_3 X_4 h_74 (by exact rfl) ?_ ?_ ?_
  · rw [I_3_]
    exact ⟨by simp [restrict_env], by simp [restrict_env], by simp [restrict_env], by simp [restrict_env], by simp [restrict_mem]⟩
  · intro s_1 σ_5 a_2 hI hp
    rw [I_3_] at hI
    obtain ⟨q_6, q_7, q_8, q_9, q_10⟩ := hI
    try simp [q_6, q_7, q_8, q_9, q_10]
    rcases cond_cases hp with ⟨h_11, hp⟩ | ⟨h_11, hp⟩
    · try simp at h_11
      try simp [q_6, q_7, q_8, q_9, q_10, h_11]
      obtain ⟨r_65, h_66, hp⟩ := bind_some hp
      obtain ⟨I_14, I_14_⟩ : ∃ I : (List (List Int)) × Int → St → Prop, I = (fun (s_12 : (List (List Int)) × Int) (σ : St) => σ.env 1 = .one (.s (.int .i64 bound)) ∧ σ.env 6 = .one (.l .own s_12.1.length (encL s_12.1)) ∧ σ.env 12 = .one (.s (.int .i64 many)) ∧ σ.env 13 = .one (.s (.int .i64 s_1.2)) ∧ σ.env 16 = .one (.l .bor s_1.1.length (encL s_1.1)) ∧ σ.env 17 = .one (.s (.int .i64 (s_1.1.length : Int))) ∧ σ.env 18 = .one (.s (.int .i64 s_12.2)) ∧ σ.mem = mem0) := ⟨_, rfl⟩
      obtain ⟨X_15, X_15_⟩ : ∃ X : (List (List Int)) → Out → Prop, X = (fun (r_65 : (List (List Int))) (out : Out) => ∃ σ : St, out = .exit 2 σ ∧ σ.env 1 = .one (.s (.int .i64 bound)) ∧ σ.env 6 = .one (.l .own r_65.length (encL r_65)) ∧ σ.env 12 = .one (.s (.int .i64 many)) ∧ σ.env 13 = .one (.s (.int .i64 s_1.2)) ∧ σ.mem = mem0) := ⟨_, rfl⟩
      refine loopP ({ hd := [1, 6, 12, 13, 16, 17, 18], bx := [], ex := [1, 6, 12, 13], rt := [4] }) I_14 X_15 h_66 (by exact rfl) ?_ ?_ ?_
      · rw [I_14_]
        exact ⟨by simp [restrict_env, q_6, q_7, q_8, q_9, q_10, h_11], by simp [restrict_env, q_6, q_7, q_8, q_9, q_10, h_11], by simp [restrict_env, q_6, q_7, q_8, q_9, q_10, h_11], by simp [restrict_env, q_6, q_7, q_8, q_9, q_10, h_11], by simp [restrict_env, q_6, q_7, q_8, q_9, q_10, h_11], by simp [restrict_env, q_6, q_7, q_8, q_9, q_10, h_11], by simp [restrict_env, q_6, q_7, q_8, q_9, q_10, h_11], by simp [restrict_mem, q_6, q_7, q_8, q_9, q_10, h_11]⟩
      · intro s_12 σ_16 a_13 hI hp
        rw [I_14_] at hI
        obtain ⟨q_17, q_18, q_19, q_20, q_21, q_22, q_23, q_24⟩ := hI
        try simp [h_11, q_17, q_18, q_19, q_20, q_21, q_22, q_23, q_24]
        rcases cond_cases hp with ⟨h_25, hp⟩ | ⟨h_25, hp⟩
        · try simp at h_25
          obtain ⟨e_26, h_27, hp⟩ := bind_some hp
          have b_28 := at_lo h_27
          have b_29 := at_hi h_27
          try simp at b_28
          try simp at b_29
          have c_30 := seg_at' h_27 0 1 (by decide) (ds := [.sl e_26.length (encL e_26)]) rfl
          try simp at c_30
          try simp [h_11, q_17, q_18, q_19, q_20, q_21, q_22, q_23, q_24, h_25, b_28, b_29, c_30]
          obtain ⟨r_54, h_55, hp⟩ := bind_some hp
          obtain ⟨I_33, I_33_⟩ : ∃ I : (List (List Int)) × Int → St → Prop, I = (fun (s_31 : (List (List Int)) × Int) (σ : St) => σ.env 1 = .one (.s (.int .i64 bound)) ∧ σ.env 6 = .one (.l .own s_31.1.length (encL s_31.1)) ∧ σ.env 8 = .one (.l .bor e_26.length (encL e_26)) ∧ σ.env 9 = .one (.s (.int .i64 s_31.2)) ∧ σ.env 12 = .one (.s (.int .i64 many)) ∧ σ.env 13 = .one (.s (.int .i64 s_1.2)) ∧ σ.env 16 = .one (.l .bor s_1.1.length (encL s_1.1)) ∧ σ.env 17 = .one (.s (.int .i64 (s_1.1.length : Int))) ∧ σ.env 18 = .one (.s (.int .i64 s_12.2)) ∧ σ.mem = mem0) := ⟨_, rfl⟩
          obtain ⟨X_34, X_34_⟩ : ∃ X : (List (List Int)) → Out → Prop, X = (fun (r_54 : (List (List Int))) (out : Out) => ∃ σ : St, out = .exit 4 σ ∧ σ.env 1 = .one (.s (.int .i64 bound)) ∧ σ.env 6 = .one (.l .own r_54.length (encL r_54)) ∧ σ.env 12 = .one (.s (.int .i64 many)) ∧ σ.env 13 = .one (.s (.int .i64 s_1.2)) ∧ σ.env 16 = .one (.l .bor s_1.1.length (encL s_1.1)) ∧ σ.env 17 = .one (.s (.int .i64 (s_1.1.length : Int))) ∧ σ.env 18 = .one (.s (.int .i64 s_12.2)) ∧ σ.mem = mem0) := ⟨_, rfl⟩
          refine loopP ({ hd := [1, 6, 8, 9, 12, 13, 16, 17, 18], bx := [], ex := [1, 6, 12, 13, 16, 17, 18], rt := [4] }) I_33 X_34 h_55 (by exact rfl) ?_ ?_ ?_
          · rw [I_33_]
            exact ⟨by simp [restrict_env, h_11, q_17, q_18, q_19, q_20, q_21, q_22, q_23, q_24, h_25], by simp [restrict_env, h_11, q_17, q_18, q_19, q_20, q_21, q_22, q_23, q_24, h_25], by simp [restrict_env, h_11, q_17, q_18, q_19, q_20, q_21, q_22, q_23, q_24, h_25], by simp [restrict_env, h_11, q_17, q_18, q_19, q_20, q_21, q_22, q_23, q_24, h_25], by simp [restrict_env, h_11, q_17, q_18, q_19, q_20, q_21, q_22, q_23, q_24, h_25], by simp [restrict_env, h_11, q_17, q_18, q_19, q_20, q_21, q_22, q_23, q_24, h_25], by simp [restrict_env, h_11, q_17, q_18, q_19, q_20, q_21, q_22, q_23, q_24, h_25], by simp [restrict_env, h_11, q_17, q_18, q_19, q_20, q_21, q_22, q_23, q_24, h_25], by simp [restrict_env, h_11, q_17, q_18, q_19, q_20, q_21, q_22, q_23, q_24, h_25], by simp [restrict_mem, h_11, q_17, q_18, q_19, q_20, q_21, q_22, q_23, q_24, h_25]⟩
          · intro s_31 σ_35 a_32 hI hp
            rw [I_33_] at hI
            obtain ⟨q_36, q_37, q_38, q_39, q_40, q_41, q_42, q_43, q_44, q_45⟩ := hI
            try simp [h_11, h_25, q_36, q_37, q_38, q_39, q_40, q_41, q_42, q_43, q_44, q_45]
            rcases cond_cases hp with ⟨h_46, hp⟩ | ⟨h_46, hp⟩
            · try simp at h_46
              obtain ⟨y_47, h_48, hp⟩ := bind_some hp
              have c_49 := C106_eq h_48
              simp at c_49
              obtain ⟨_, h_50, hp⟩ := bind_some hp
              have b_51 := room_ok h_50
              try simp at b_51
              obtain ⟨_, h_52, hp⟩ := bind_some hp
              have b_53 := room_ok h_52
              try simp at b_53
              cases hp
              try simp [h_11, h_25, q_36, q_37, q_38, q_39, q_40, q_41, q_42, q_43, q_44, q_45, h_46, c_49, b_51, b_53]
              refine goal_next ?_
              rw [I_33_]
              exact ⟨by simp [restrict_env, h_11, h_25, q_36, q_37, q_38, q_39, q_40, q_41, q_42, q_43, q_44, q_45, h_46, c_49, b_51, b_53], by simp [restrict_env, h_11, h_25, q_36, q_37, q_38, q_39, q_40, q_41, q_42, q_43, q_44, q_45, h_46, c_49, b_51, b_53], by simp [restrict_env, h_11, h_25, q_36, q_37, q_38, q_39, q_40, q_41, q_42, q_43, q_44, q_45, h_46, c_49, b_51, b_53], by simp [restrict_env, h_11, h_25, q_36, q_37, q_38, q_39, q_40, q_41, q_42, q_43, q_44, q_45, h_46, c_49, b_51, b_53], by simp [restrict_env, h_11, h_25, q_36, q_37, q_38, q_39, q_40, q_41, q_42, q_43, q_44, q_45, h_46, c_49, b_51, b_53], by simp [restrict_env, h_11, h_25, q_36, q_37, q_38, q_39, q_40, q_41, q_42, q_43, q_44, q_45, h_46, c_49, b_51, b_53], by simp [restrict_env, h_11, h_25, q_36, q_37, q_38, q_39, q_40, q_41, q_42, q_43, q_44, q_45, h_46, c_49, b_51, b_53], by simp [restrict_env, h_11, h_25, q_36, q_37, q_38, q_39, q_40, q_41, q_42, q_43, q_44, q_45, h_46, c_49, b_51, b_53], by simp [restrict_env, h_11, h_25, q_36, q_37, q_38, q_39, q_40, q_41, q_42, q_43, q_44, q_45, h_46, c_49, b_51, b_53], by simp [restrict_mem, h_11, h_25, q_36, q_37, q_38, q_39, q_40, q_41, q_42, q_43, q_44, q_45, h_46, c_49, b_51, b_53]⟩
            · try simp at h_46
              cases hp
              try simp [h_11, h_25, q_36, q_37, q_38, q_39, q_40, q_41, q_42, q_43, q_44, q_45, h_46]
              refine goal_outX ?_
              rw [X_34_]
              exact ⟨_, rfl, by simp [restrict_env, h_11, h_25, q_36, q_37, q_38, q_39, q_40, q_41, q_42, q_43, q_44, q_45, h_46], by simp [restrict_env, h_11, h_25, q_36, q_37, q_38, q_39, q_40, q_41, q_42, q_43, q_44, q_45, h_46], by simp [restrict_env, h_11, h_25, q_36, q_37, q_38, q_39, q_40, q_41, q_42, q_43, q_44, q_45, h_46], by simp [restrict_env, h_11, h_25, q_36, q_37, q_38, q_39, q_40, q_41, q_42, q_43, q_44, q_45, h_46], by simp [restrict_env, h_11, h_25, q_36, q_37, q_38, q_39, q_40, q_41, q_42, q_43, q_44, q_45, h_46], by simp [restrict_env, h_11, h_25, q_36, q_37, q_38, q_39, q_40, q_41, q_42, q_43, q_44, q_45, h_46], by simp [restrict_env, h_11, h_25, q_36, q_37, q_38, q_39, q_40, q_41, q_42, q_43, q_44, q_45, h_46], by simp [restrict_mem, h_11, h_25, q_36, q_37, q_38, q_39, q_40, q_41, q_42, q_43, q_44, q_45, h_46]⟩
          · intro out hX
            rw [X_34_] at hX
            obtain ⟨σ_56, rfl, q_57, q_58, q_59, q_60, q_61, q_62, q_63, q_64⟩ := hX
            cases hp
            try simp [h_11, h_25, q_57, q_58, q_59, q_60, q_61, q_62, q_63, q_64]
            refine goal_next ?_
            rw [I_14_]
            exact ⟨by simp [restrict_env, h_11, h_25, q_57, q_58, q_59, q_60, q_61, q_62, q_63, q_64], by simp [restrict_env, h_11, h_25, q_57, q_58, q_59, q_60, q_61, q_62, q_63, q_64], by simp [restrict_env, h_11, h_25, q_57, q_58, q_59, q_60, q_61, q_62, q_63, q_64], by simp [restrict_env, h_11, h_25, q_57, q_58, q_59, q_60, q_61, q_62, q_63, q_64], by simp [restrict_env, h_11, h_25, q_57, q_58, q_59, q_60, q_61, q_62, q_63, q_64], by simp [restrict_env, h_11, h_25, q_57, q_58, q_59, q_60, q_61, q_62, q_63, q_64], by simp [restrict_env, h_11, h_25, q_57, q_58, q_59, q_60, q_61, q_62, q_63, q_64], by simp [restrict_mem, h_11, h_25, q_57, q_58, q_59, q_60, q_61, q_62, q_63, q_64]⟩
        · try simp at h_25
          cases hp
          try simp [h_11, q_17, q_18, q_19, q_20, q_21, q_22, q_23, q_24, h_25]
          refine goal_outX ?_
          rw [X_15_]
          exact ⟨_, rfl, by simp [restrict_env, h_11, q_17, q_18, q_19, q_20, q_21, q_22, q_23, q_24, h_25], by simp [restrict_env, h_11, q_17, q_18, q_19, q_20, q_21, q_22, q_23, q_24, h_25], by simp [restrict_env, h_11, q_17, q_18, q_19, q_20, q_21, q_22, q_23, q_24, h_25], by simp [restrict_env, h_11, q_17, q_18, q_19, q_20, q_21, q_22, q_23, q_24, h_25], by simp [restrict_mem, h_11, q_17, q_18, q_19, q_20, q_21, q_22, q_23, q_24, h_25]⟩
      · intro out hX
        rw [X_15_] at hX
        obtain ⟨σ_67, rfl, q_68, q_69, q_70, q_71, q_72⟩ := hX
        cases hp
        try simp [h_11, q_68, q_69, q_70, q_71, q_72]
        refine goal_next ?_
        rw [I_3_]
        exact ⟨by simp [restrict_env, h_11, q_68, q_69, q_70, q_71, q_72], by simp [restrict_env, h_11, q_68, q_69, q_70, q_71, q_72], by simp [restrict_env, h_11, q_68, q_69, q_70, q_71, q_72], by simp [restrict_env, h_11, q_68, q_69, q_70, q_71, q_72], by simp [restrict_mem, h_11, q_68, q_69, q_70, q_71, q_72]⟩
    · try simp at h_11
      cases hp
      try simp [q_6, q_7, q_8, q_9, q_10, h_11]
      refine goal_outX ?_
      rw [X_4_]
      exact ⟨_, rfl, by simp [restrict_env, q_6, q_7, q_8, q_9, q_10, h_11], by simp [restrict_mem, q_6, q_7, q_8, q_9, q_10, h_11]⟩
  · intro out hX
    rw [X_4_] at hX
    obtain ⟨σ_75, rfl, q_76, q_77⟩ := hX
    cases hp
    simp [Goal, FnEnd, q_76, q_77]
theorem pc50 : PC Try.prog 50 C50 := pc_of (g := g50) (ctxOK_of [(106, C106)] rfl ⟨pc106, trivial⟩) ⟨Try.f50, Try.func50, by kernel_rfl, by kernel_rfl⟩ fun x y h => w50 h

noncomputable def C154 : List AV → Option AV := specP (X := THeap × Int × Unit) fun x => impl_Heap_isCell x.1 x.2.1
theorem C154_eq {h_ n_} {y} (h : impl_Heap_isCell h_ n_ = some y) : C154 [av .shr h_, av .shr n_] = some (Res.res y) := specP_eq (X := THeap × Int × Unit) (F := fun x => impl_Heap_isCell x.1 x.2.1) (x := (h_, n_, ())) h
noncomputable def g154 : Cfg := { P := Try.prog, take := [], keep := [], gho := [], ctx := [(49, C49)] }
@[simp] theorem g154_P : g154.P = Try.prog := rfl
@[simp] theorem g154_t : g154.take = [] := rfl
@[simp] theorem g154_g : g154.gho = [] := rfl
@[simp] theorem g154_49 : lookN 49 g154.ctx = some C49 := rfl
set_option maxHeartbeats 4000000 in
set_option maxRecDepth 100000 in
theorem w154 {h_ n_} {y} (hp : impl_Heap_isCell h_ n_ = some y) : ∃ m, callo g154 0 154 [av .shr h_, av .shr n_] mem0 = some (Res.res y, m) := by
  refine start_fn (Try.f154.body.getD .skip) [.tmp 4] rfl rfl Try.func154 (by kernel_rfl) (by kernel_rfl) (by simp [Try.ntmps154]) rfl ?_
  unfold impl_Heap_isCell at hp
  obtain ⟨y_1, h_2, hp⟩ := bind_some hp
  have c_3 := C49_eq h_2
  simp at c_3
  cases hp
  simp [Try.f154, Goal, FnEnd, c_3]
theorem pc154 : PC Try.prog 154 C154 := pc_of (g := g154) (ctxOK_of [(49, C49)] rfl ⟨pc49, trivial⟩) ⟨Try.f154, Try.func154, by kernel_rfl, by kernel_rfl⟩ fun x y h => w154 h

abbrev G169 (g : Cfg) : Prop := Has Try.prog g 169 Try.f169 [] [(2, { hd := [0, 1, 7, 8], bx := [], ex := [], rt := [4] })] [] []
set_option maxHeartbeats 4000000 in
set_option maxRecDepth 100000 in
theorem wI169 {g : Cfg} (G : G169 g) {d : Nat} {mem : Mem} (hT : Tight d mem)  {s : (List Int)} {f_ : (Int → Option (Bool))} {m_0 : Md} (hm_0 : LentM m_0) {fk_f_ : Nat} {caps_f_ : List (Key × Nat)} (hl_f_ : ∀ c ∈ caps_f_, c.1.1 ≤ d) (hc_f_ : Clo g d mem fk_f_ caps_f_ fun x : Int × Unit => f_ x.1) {y} (hp : slices_IndexFunc_int s f_ = some y) : callo g d 169 [av m_0 s, .one (.fn fk_f_ caps_f_)] mem = some (Res.res y, mem) := by
  have gP := G.P; have gt := G.tk; have gg := G.gh
  have k_2 := G.kp (2, { hd := [0, 1, 7, 8], bx := [], ex := [], rt := [4] }) (by simp)
  have hT2 : memKill (fun k => decide (d < k.1)) mem = mem := hT
  refine start_in (Try.f169.body.getD .skip) [.tmp 4] G Try.func169 (by kernel_rfl) (by simp [Try.ntmps169]) rfl ?_
  unfold slices_IndexFunc_int at hp
  simp [Try.f169, gP, gt, gg, hm_0.copy, hm_0.elem]
  obtain ⟨r_20, h_21, hp⟩ := bind_some hp
  obtain ⟨I_3, I_3_⟩ : ∃ I : Int → St → Prop, I = (fun (s_1 : Int) (σ : St) => σ.env 0 = .one (.l m_0 s.length (encL s)) ∧ σ.env 1 = .one (.fn fk_f_ caps_f_) ∧ σ.env 7 = .one (.s (.int .i64 (s.length : Int))) ∧ σ.env 8 = .one (.s (.int .i64 s_1)) ∧ σ.mem = mem) := ⟨_, rfl⟩
  obtain ⟨X_4, X_4_⟩ : ∃ X : ((Int) ⊕ (Unit)) → Out → Prop, X = (fun (r_20 : (Int) ⊕ (Unit)) (out : Out) => Sum.elim (fun r_20 => ∃ σ : St, out = .ret σ ∧ σ.env 4 = .one (.s (.int .i64 r_20)) ∧ σ.mem = mem) (fun r_20 => ∃ σ : St, out = .exit 0 σ ∧ σ.mem = mem) r_20) := ⟨_, rfl⟩
  refine loopP ({ hd := [0, 1, 7, 8], bx := [], ex := [], rt := [4] }) I_3 X_4 h_21 (by exact k_2) ?_ ?_ ?_
  · rw [I_3_]
    exact ⟨by simp [restrict_env, gP, gt, gg, hm_0.copy, hm_0.elem], by simp [restrict_env, gP, gt, gg, hm_0.copy, hm_0.elem] <;> first | (intro x x1 x2 hx; have h0 := hl_f_ _ hx; simp at h0; omega) | (intro x hx; have h0 := hl_f_ _ hx; simp at h0; omega), by simp [restrict_env, gP, gt, gg, hm_0.copy, hm_0.elem], by simp [restrict_env, gP, gt, gg, hm_0.copy, hm_0.elem], by simp [restrict_mem, gP, gt, gg, hm_0.copy, hm_0.elem]⟩
  · intro s_1 σ_5 a_2 hI hp
    rw [I_3_] at hI
    obtain ⟨q_6, q_7, q_8, q_9, q_10⟩ := hI
    try simp [gP, gt, gg, hm_0.copy, hm_0.elem, q_6, q_7, q_8, q_9, q_10]
    rcases cond_cases hp with ⟨h_11, hp⟩ | ⟨h_11, hp⟩
    · try simp at h_11
      obtain ⟨e_12, h_13, hp⟩ := bind_some hp
      have b_14 := at_lo h_13
      have b_15 := at_hi h_13
      try simp at b_14
      try simp at b_15
      have c_16 := seg_at' h_13 0 1 (by decide) (ds := [.sc (.int .i64 e_12)]) rfl
      try simp at c_16
      obtain ⟨y_17, h_18, hp⟩ := bind_some hp
      try simp [gP, gt, gg, hm_0.copy, hm_0.elem, q_6, q_7, q_8, q_9, q_10, h_11, b_14, b_15, c_16]
      refine goal_call ([av .shr e_12] ++ capsAV caps_f_) (Res.res y_17) (by simp [capsAV, gP, gt, gg, hm_0.copy, hm_0.elem, q_6, q_7, q_8, q_9, q_10, h_11]) (hc_f_ _ _ _ (e_12, ()) _ (Nat.le_succ d) (fun k hk => by first | rfl | rw [q_10]) (by repeat (first | exact tight_mem0 _ | exact hT.up | exact hT | (simp only [q_6, q_7, q_8, q_9, q_10]; done) | refine Tight.upd ?_ (by simp) (by simp))) ⟨_, _, (.inl rfl), rfl, rfl⟩ h_18) ?_
      try simp [gP, gt, gg, hm_0.copy, hm_0.elem, q_6, q_7, q_8, q_9, q_10, h_11]
      rcases cond_cases hp with ⟨h_19, hp⟩ | ⟨h_19, hp⟩
      · try simp at h_19
        cases hp
        try simp [gP, gt, gg, hm_0.copy, hm_0.elem, q_6, q_7, q_8, q_9, q_10, h_11, h_19]
        refine goal_outR ?_
        rw [X_4_]
        exact ⟨_, rfl, by simp [restrict_env, gP, gt, gg, hm_0.copy, hm_0.elem, q_6, q_7, q_8, q_9, q_10, h_11, h_19], by simp [restrict_mem, gP, gt, gg, hm_0.copy, hm_0.elem, q_6, q_7, q_8, q_9, q_10, h_11, h_19]⟩
      · try simp at h_19
        cases hp
        try simp [gP, gt, gg, hm_0.copy, hm_0.elem, q_6, q_7, q_8, q_9, q_10, h_11, h_19]
        refine goal_next ?_
        rw [I_3_]
        exact ⟨by simp [restrict_env, gP, gt, gg, hm_0.copy, hm_0.elem, q_6, q_7, q_8, q_9, q_10, h_11, h_19], by simp [restrict_env, gP, gt, gg, hm_0.copy, hm_0.elem, q_6, q_7, q_8, q_9, q_10, h_11, h_19] <;> first | (intro x x1 x2 hx; have h0 := hl_f_ _ hx; simp at h0; omega) | (intro x hx; have h0 := hl_f_ _ hx; simp at h0; omega), by simp [restrict_env, gP, gt, gg, hm_0.copy, hm_0.elem, q_6, q_7, q_8, q_9, q_10, h_11, h_19], by simp [restrict_env, gP, gt, gg, hm_0.copy, hm_0.elem, q_6, q_7, q_8, q_9, q_10, h_11, h_19], by simp [restrict_mem, gP, gt, gg, hm_0.copy, hm_0.elem, q_6, q_7, q_8, q_9, q_10, h_11, h_19]⟩
    · try simp at h_11
      cases hp
      try simp [gP, gt, gg, hm_0.copy, hm_0.elem, q_6, q_7, q_8, q_9, q_10, h_11]
      refine goal_outX ?_
      rw [X_4_]
      exact ⟨_, rfl, by simp [restrict_mem, gP, gt, gg, hm_0.copy, hm_0.elem, q_6, q_7, q_8, q_9, q_10, h_11]⟩
  · intro out hX
    rw [X_4_] at hX
    rcases r_20 with r_20 | r_20
    · simp only [Sum.elim_inl, Sum.elim_inr] at hX hp
      obtain ⟨σ_22, rfl, q_23, q_24⟩ := hX
      cases hp
      simp [Goal, FnEndI, memKill_hi, gP, gt, gg, hm_0.copy, hm_0.elem, q_23, q_24, hT2]
    · simp only [Sum.elim_inl, Sum.elim_inr] at hX hp
      obtain ⟨σ_25, rfl, q_26⟩ := hX
      cases hp
      simp [Goal, FnEndI, memKill_hi, gP, gt, gg, hm_0.copy, hm_0.elem, q_26, hT2]

abbrev G151 (g : Cfg) : Prop := Has Try.prog g 151 Try.f151 [] [] [] []
set_option maxHeartbeats 4000000 in
set_option maxRecDepth 100000 in
theorem wI151 {g : Cfg} (G : G151 g) (G_169 : G169 g) {d : Nat} {mem : Mem} (hT : Tight d mem)  {s : (List Int)} {f_ : (Int → Option (Bool))} {m_0 : Md} (hm_0 : LentM m_0) {fk_f_ : Nat} {caps_f_ : List (Key × Nat)} (hl_f_ : ∀ c ∈ caps_f_, c.1.1 ≤ d) (hc_f_ : Clo g d mem fk_f_ caps_f_ fun x : Int × Unit => f_ x.1) {y} (hp : slices_ContainsFunc_int s f_ = some y) : callo g d 151 [av m_0 s, .one (.fn fk_f_ caps_f_)] mem = some (Res.res y, mem) := by
  have gP := G.P; have gt := G.tk; have gg := G.gh
  have i_169 := G_169.no
  have hT2 : memKill (fun k => decide (d < k.1)) mem = mem := hT
  refine start_in (Try.f151.body.getD .skip) [.tmp 4] G Try.func151 (by kernel_rfl) (by simp [Try.ntmps151]) rfl ?_
  unfold slices_ContainsFunc_int at hp
  obtain ⟨y_1, h_2, hp⟩ := bind_some hp
  simp [Try.f151, gP, gt, gg, i_169, hm_0.copy, hm_0.elem]
  refine goal_call [av m_0 s, .one (.fn fk_f_ caps_f_)] (Res.res y_1) (by simp [gP, gt, gg, i_169, hm_0.copy, hm_0.elem]) (wI169 G_169 (by repeat (first | exact tight_mem0 _ | exact hT.up | exact hT | (simp only [true_and]; done) | refine Tight.upd ?_ (by simp) (by simp))) hm_0 (fun c hc => Nat.le_succ_of_le (hl_f_ c hc)) (hc_f_.mono (Nat.le_succ d) (fun k hk => rfl)) h_2) ?_
  cases hp
  simp [Goal, FnEndI, memKill_hi, gP, gt, gg, i_169, hm_0.copy, hm_0.elem, hT2]

abbrev G153 (g : Cfg) : Prop := Has Try.prog g 153 Try.f153 [] [] [(154, C154)] []
set_option maxHeartbeats 4000000 in
set_option maxRecDepth 100000 in
theorem wI153 {g : Cfg} (G : G153 g) {d : Nat} {mem : Mem} (hT : Tight d mem) {K_1 : Key} {n_ : Int} {c0 : THeap} {mk_1 : Md} (hk_1 : K_1.1 ≤ d) (hb_1 : mem K_1 = some [(.l mk_1 c0.vars.length (encL c0.vars)), (.l mk_1 c0.next.length (encL c0.next))]) {y} (hp : impl_Heap_areCells_1 n_ c0 = some y) : callo g d 153 [av .shr n_, .one (.ptr K_1 0)] mem = some (Res.res y, mem) := by
  have gP := G.P; have gt := G.tk; have gg := G.gh
  have c_154 := G.cs (154, C154) (by simp)
  have hT2 : memKill (fun k => decide (d < k.1)) mem = mem := hT
  have nk_1 : ∀ t, (K_1 = (d + 1, t)) = False := fun t => by simp; intro h; rw [h] at hk_1; simp at hk_1; omega
  refine start_in (Try.f153.body.getD .skip) [.tmp 3] G Try.func153 (by kernel_rfl) (by simp [Try.ntmps153]) rfl ?_
  unfold impl_Heap_areCells_1 at hp
  simp [Try.f153, gP, gt, gg, hb_1, nk_1]
  rcases cond_cases hp with ⟨h_1, hp⟩ | ⟨h_1, hp⟩
  · try simp at h_1
    obtain ⟨y_2, h_3, hp⟩ := bind_some hp
    have c_4 := C154_eq h_3
    simp at c_4
    cases hp
    simp [Goal, FnEndI, memKill_hi, gP, gt, gg, c_154, hb_1, nk_1, h_1, c_4, hT2]
  · try simp at h_1
    cases hp
    simp [Goal, FnEndI, memKill_hi, gP, gt, gg, c_154, hb_1, nk_1, h_1, hT2]

noncomputable def C107 : List AV → Option AV := specP (X := THeap × Unit) fun x => impl_Heap_areCells x.1
theorem C107_eq {h_} {y} (h : impl_Heap_areCells h_ = some y) : C107 [av .shr h_] = some (Res.res y) := specP_eq (X := THeap × Unit) (F := fun x => impl_Heap_areCells x.1) (x := (h_, ())) h
noncomputable def g107 : Cfg := { P := Try.prog, take := [], keep := [((169, 2), { hd := [0, 1, 7, 8], bx := [], ex := [], rt := [4] })], gho := [], ctx := [(152, C152), (154, C154)] }
@[simp] theorem g107_P : g107.P = Try.prog := rfl
@[simp] theorem g107_t : g107.take = [] := rfl
@[simp] theorem g107_g : g107.gho = [] := rfl
@[simp] theorem g107_152 : lookN 152 g107.ctx = some C152 := rfl
@[simp] theorem g107_154 : lookN 154 g107.ctx = some C154 := rfl
@[simp] theorem g107_151 : lookN 151 g107.ctx = none := rfl
@[simp] theorem g107_169 : lookN 169 g107.ctx = none := rfl
@[simp] theorem g107_153 : lookN 153 g107.ctx = none := rfl
set_option maxHeartbeats 4000000 in
set_option maxRecDepth 100000 in
theorem w107 {h_} {y} (hp : impl_Heap_areCells h_ = some y) : ∃ m, callo g107 0 107 [av .shr h_] mem0 = some (Res.res y, m) := by
  have G_151 : G151 g107 := ⟨rfl, by kernel_rfl, rfl, fun t => by simp, fun i => by simp [lookK], by simp [g107, lookK], by simp⟩
  have G_169 : G169 g107 := ⟨rfl, by kernel_rfl, rfl, fun t => by simp, fun i => by simp [lookK], by simp [g107, lookK], by simp⟩
  have G_153 : G153 g107 := ⟨rfl, by kernel_rfl, rfl, fun t => by simp, fun i => by simp [lookK], by simp [g107, lookK], by simp⟩
  refine start_fn (Try.f107.body.getD .skip) [.tmp 2] rfl rfl Try.func107 (by kernel_rfl) (by kernel_rfl) (by simp [Try.ntmps107]) rfl ?_
  unfold impl_Heap_areCells at hp
  obtain ⟨y_1, h_2, hp⟩ := bind_some hp
  have c_3 := C152_eq h_2
  simp at c_3
  obtain ⟨y_4, h_5, hp⟩ := bind_some hp
  simp [Try.f107, c_3]
  refine goal_call [av .bor y_1, .one (.fn 153 [((1, 1), 0)])] (Res.res y_4) (by simp) (wI151 G_151 G_169 (by repeat (first | exact tight_mem0 _ | exact hT.up | exact hT | (simp only [true_and]; done) | refine Tight.upd ?_ (by simp) (by simp))) (.inr rfl) (by simp) (clo1 (p := fun x0 => impl_Heap_areCells_1 x0 h_) fun d2 mem2 m0 x0 r2 hd2 ha2 hT2 hm0 hr2 => wI153 (mk_1 := .shr) G_153 hT2 (show 1 ≤ d2 from hd2) ((ha2 _ (Nat.le_refl _)).trans (by simp [c_3])) hr2) h_5) ?_
  cases hp
  simp [Goal, FnEnd]
theorem pc107 : PC Try.prog 107 C107 := pc_of (g := g107) (ctxOK_of [(152, C152), (154, C154)] rfl ⟨pc152, pc154, trivial⟩) ⟨Try.f107, Try.func107, by kernel_rfl, by kernel_rfl⟩ fun x y h => w107 h

noncomputable def C171 : List AV → Option AV := specP (X := (List Int) × Int × Unit) fun x => slices_Index_int x.1 x.2.1
theorem C171_eq {s v} {y} (h : slices_Index_int s v = some y) : C171 [av .shr s, av .shr v] = some (Res.res y) := specP_eq (X := (List Int) × Int × Unit) (F := fun x => slices_Index_int x.1 x.2.1) (x := (s, v, ())) h
noncomputable def g171 : Cfg := { P := Try.prog, take := [], keep := [((171, 2), { hd := [0, 1, 7, 8], bx := [], ex := [], rt := [4] })], gho := [], ctx := [] }
@[simp] theorem g171_P : g171.P = Try.prog := rfl
@[simp] theorem g171_t : g171.take = [] := rfl
@[simp] theorem g171_g : g171.gho = [] := rfl
set_option maxHeartbeats 4000000 in
set_option maxRecDepth 100000 in
theorem w171 {s v} {y} (hp : slices_Index_int s v = some y) : ∃ m, callo g171 0 171 [av .shr s, av .shr v] mem0 = some (Res.res y, m) := by
  refine start_fn (Try.f171.body.getD .skip) [.tmp 4] rfl rfl Try.func171 (by kernel_rfl) (by kernel_rfl) (by simp [Try.ntmps171]) rfl ?_
  unfold slices_Index_int at hp
  simp [Try.f171]
  obtain ⟨r_18, h_19, hp⟩ := bind_some hp
  obtain ⟨I_3, I_3_⟩ : ∃ I : Int → St → Prop, I = (fun (s_1 : Int) (σ : St) => σ.env 0 = .one (.l .shr s.length (encL s)) ∧ σ.env 1 = .one (.s (.int .i64 v)) ∧ σ.env 7 = .one (.s (.int .i64 (s.length : Int))) ∧ σ.env 8 = .one (.s (.int .i64 s_1)) ∧ σ.mem = mem0) := ⟨_, rfl⟩
  obtain ⟨X_4, X_4_⟩ : ∃ X : ((Int) ⊕ (Unit)) → Out → Prop, X = (fun (r_18 : (Int) ⊕ (Unit)) (out : Out) => Sum.elim (fun r_18 => ∃ σ : St, out = .ret σ ∧ σ.env 4 = .one (.s (.int .i64 r_18)) ∧ σ.mem = mem0) (fun r_18 => ∃ σ : St, out = .exit 0 σ ∧ σ.mem = mem0) r_18) := ⟨_, rfl⟩
  refine loopP ({ hd := [0, 1, 7, 8], bx := [], ex := [], rt := [4] }) I_3 X_4 h_19 (by exact rfl) ?_ ?_ ?_
  · rw [I_3_]
    exact ⟨by simp [restrict_env], by simp [restrict_env], by simp [restrict_env], by simp [restrict_env], by simp [restrict_mem]⟩
  · intro s_1 σ_5 a_2 hI hp
    rw [I_3_] at hI
    obtain ⟨q_6, q_7, q_8, q_9, q_10⟩ := hI
    try simp [q_6, q_7, q_8, q_9, q_10]
    rcases cond_cases hp with ⟨h_11, hp⟩ | ⟨h_11, hp⟩
    · try simp at h_11
      obtain ⟨e_12, h_13, hp⟩ := bind_some hp
      have b_14 := at_lo h_13
      have b_15 := at_hi h_13
      try simp at b_14
      try simp at b_15
      have c_16 := seg_at' h_13 0 1 (by decide) (ds := [.sc (.int .i64 e_12)]) rfl
      try simp at c_16
      try simp [q_6, q_7, q_8, q_9, q_10, h_11, b_14, b_15, c_16]
      rcases cond_cases hp with ⟨h_17, hp⟩ | ⟨h_17, hp⟩
      · try simp at h_17
        cases hp
        try simp [q_6, q_7, q_8, q_9, q_10, h_11, h_17]
        refine goal_outR ?_
        rw [X_4_]
        exact ⟨_, rfl, by simp [restrict_env, q_6, q_7, q_8, q_9, q_10, h_11, h_17], by simp [restrict_mem, q_6, q_7, q_8, q_9, q_10, h_11, h_17]⟩
      · try simp at h_17
        cases hp
        try simp [q_6, q_7, q_8, q_9, q_10, h_11, h_17]
        refine goal_next ?_
        rw [I_3_]
        exact ⟨by simp [restrict_env, q_6, q_7, q_8, q_9, q_10, h_11, h_17], by simp [restrict_env, q_6, q_7, q_8, q_9, q_10, h_11, h_17], by simp [restrict_env, q_6, q_7, q_8, q_9, q_10, h_11, h_17], by simp [restrict_env, q_6, q_7, q_8, q_9, q_10, h_11, h_17], by simp [restrict_mem, q_6, q_7, q_8, q_9, q_10, h_11, h_17]⟩
    · try simp at h_11
      cases hp
      try simp [q_6, q_7, q_8, q_9, q_10, h_11]
      refine goal_outX ?_
      rw [X_4_]
      exact ⟨_, rfl, by simp [restrict_mem, q_6, q_7, q_8, q_9, q_10, h_11]⟩
  · intro out hX
    rw [X_4_] at hX
    rcases r_18 with r_18 | r_18
    · simp only [Sum.elim_inl, Sum.elim_inr] at hX hp
      obtain ⟨σ_20, rfl, q_21, q_22⟩ := hX
      cases hp
      simp [Goal, FnEnd, q_21, q_22]
    · simp only [Sum.elim_inl, Sum.elim_inr] at hX hp
      obtain ⟨σ_23, rfl, q_24⟩ := hX
      cases hp
      simp [Goal, FnEnd, q_24]
theorem pc171 : PC Try.prog 171 C171 := pc_of (g := g171) (fun f F h => by cases h) ⟨Try.f171, Try.func171, by kernel_rfl, by kernel_rfl⟩ fun x y h => w171 h

noncomputable def C155 : List AV → Option AV := specP (X := (List Int) × Int × Unit) fun x => slices_Contains_int x.1 x.2.1
theorem C155_eq {s v} {y} (h : slices_Contains_int s v = some y) : C155 [av .shr s, av .shr v] = some (Res.res y) := specP_eq (X := (List Int) × Int × Unit) (F := fun x => slices_Contains_int x.1 x.2.1) (x := (s, v, ())) h
noncomputable def g155 : Cfg := { P := Try.prog, take := [], keep := [], gho := [], ctx := [(171, C171)] }
@[simp] theorem g155_P : g155.P = Try.prog := rfl
@[simp] theorem g155_t : g155.take = [] := rfl
@[simp] theorem g155_g : g155.gho = [] := rfl
@[simp] theorem g155_171 : lookN 171 g155.ctx = some C171 := rfl
set_option maxHeartbeats 4000000 in
set_option maxRecDepth 100000 in
theorem w155 {s v} {y} (hp : slices_Contains_int s v = some y) : ∃ m, callo g155 0 155 [av .shr s, av .shr v] mem0 = some (Res.res y, m) := by
  refine start_fn (Try.f155.body.getD .skip) [.tmp 4] rfl rfl Try.func155 (by kernel_rfl) (by kernel_rfl) (by simp [Try.ntmps155]) rfl ?_
  unfold slices_Contains_int at hp
  obtain ⟨y_1, h_2, hp⟩ := bind_some hp
  have c_3 := C171_eq h_2
  simp at c_3
  cases hp
  simp [Try.f155, Goal, FnEnd, c_3]
theorem pc155 : PC Try.prog 155 C155 := pc_of (g := g155) (ctxOK_of [(171, C171)] rfl ⟨pc171, trivial⟩) ⟨Try.f155, Try.func155, by kernel_rfl, by kernel_rfl⟩ fun x y h => w155 h

noncomputable def C156 : List AV → Option AV := specP (X := THeap × Int × Unit) fun x => impl_Followed x.1 x.2.1
theorem C156_eq {h_ cell} {y} (h : impl_Followed h_ cell = some y) : C156 [av .shr h_, av .shr cell] = some (Res.res y) := specP_eq (X := THeap × Int × Unit) (F := fun x => impl_Followed x.1 x.2.1) (x := (h_, cell, ())) h
noncomputable def g156 : Cfg := { P := Try.prog, take := [(156, 27), (156, 31)], keep := [((156, 3), { hd := [1, 2, 5, 6], bx := [], ex := [5], rt := [4] })], gho := [], ctx := [(154, C154), (155, C155)] }
@[simp] theorem g156_P : g156.P = Try.prog := rfl
@[simp] theorem g156_t : g156.take = [(156, 27), (156, 31)] := rfl
@[simp] theorem g156_g : g156.gho = [] := rfl
@[simp] theorem g156_154 : lookN 154 g156.ctx = some C154 := rfl
@[simp] theorem g156_155 : lookN 155 g156.ctx = some C155 := rfl
set_option maxHeartbeats 4000000 in
set_option maxRecDepth 100000 in
theorem w156 {h_ cell} {y} (hp : impl_Followed h_ cell = some y) : ∃ m, callo g156 0 156 [av .shr h_, av .shr cell] mem0 = some (Res.res y, m) := by
  refine start_fn (Try.f156.body.getD .skip) [.tmp 4] rfl rfl Try.func156 (by kernel_rfl) (by kernel_rfl) (by simp [Try.ntmps156]) rfl ?_
  unfold impl_Followed at hp
  simp [Try.f156]
  obtain ⟨r_44, h_45, hp⟩ := bind_some hp
  obtain ⟨I_3, I_3_⟩ : ∃ I : (List Int) × Int → St → Prop, I = (fun (s_1 : (List Int) × Int) (σ : St) => σ.env 1 = .one (.s (.int .i64 cell)) ∧ σ.env 2 = .one (.ptr (1, 2) 0) ∧ σ.env 5 = .one (.l .own s_1.1.length (encL s_1.1)) ∧ σ.env 6 = .one (.s (.int .i64 s_1.2)) ∧ σ.mem (1, 2) = some [(.l .shr h_.vars.length (encL h_.vars)), (.l .shr h_.next.length (encL h_.next))] ∧ NoBox [(1, 2)] σ.mem) := ⟨_, rfl⟩
  obtain ⟨X_4, X_4_⟩ : ∃ X : (((List Int)) ⊕ (Unit)) → Out → Prop, X = (fun (r_44 : ((List Int)) ⊕ (Unit)) (out : Out) => Sum.elim (fun r_44 => ∃ σ : St, out = .exit 0 σ ∧ σ.env 5 = .one (.l .own r_44.length (encL r_44)) ∧ σ.mem (1, 2) = some [(.l .shr h_.vars.length (encL h_.vars)), (.l .shr h_.next.length (encL h_.next))] ∧ NoBox [(1, 2)] σ.mem) (fun r_44 => ∃ σ : St, out = .ret σ ∧ σ.env 4 = .one (.l .own 0 []) ∧ σ.mem (1, 2) = some [(.l .shr h_.vars.length (encL h_.vars)), (.l .shr h_.next.length (encL h_.next))] ∧ NoBox [(1, 2)] σ.mem) r_44) := ⟨_, rfl⟩
  refine loopP ({ hd := [1, 2, 5, 6], bx := [], ex := [5], rt := [4] }) I_3 X_4 h_45 (by exact rfl) ?_ ?_ ?_
  · rw [I_3_]
    exact ⟨by simp [restrict_env], by simp [restrict_env], by simp [restrict_env], by simp [restrict_env], by simp [restrict_mem], NoBox.restrict (by intro k hk hb; simp at hk hb; simp [hk, hb])⟩
  · intro s_1 σ_5 a_2 hI hp
    rw [I_3_] at hI
    obtain ⟨q_6, q_7, q_8, q_9, q_10, hn_11⟩ := hI
    try simp [q_6, q_7, q_8, q_9, q_10]
    rcases cond_cases hp with ⟨h_12, hp⟩ | ⟨h_12, hp⟩
    · try simp at h_12
      obtain ⟨y_13, h_14, hp⟩ := bind_some hp
      have c_15 := C154_eq h_14
      simp at c_15
      try simp [q_6, q_7, q_8, q_9, q_10, h_12, c_15]
      rcases cond_cases hp with ⟨h_16, hp⟩ | ⟨h_16, hp⟩
      · try simp at h_16
        obtain ⟨y_17, h_18, hp⟩ := bind_some hp
        have c_19 := C155_eq h_18
        simp at c_19
        try simp [q_6, q_7, q_8, q_9, q_10, h_12, h_16, c_19]
        rcases cond_cases hp with ⟨h_20, hp⟩ | ⟨h_20, hp⟩
        · try simp at h_20
          cases hp
          try simp [q_6, q_7, q_8, q_9, q_10, h_12, h_16, h_20]
          refine goal_outX ?_
          rw [X_4_]
          exact ⟨_, rfl, by simp [restrict_env, q_6, q_7, q_8, q_9, q_10, h_12, h_16, h_20], by simp [restrict_mem, q_6, q_7, q_8, q_9, q_10, h_12, h_16, h_20], NoBox.restrict (by intro k hk hb; simp at hk hb; simp [hk, hb, q_6, q_7, q_8, q_9, q_10, h_12, h_16, h_20, hn_11 k (by simp [hk, hb])])⟩
        · try simp at h_20
          obtain ⟨_, h_21, hp⟩ := bind_some hp
          have b_22 := room_ok h_21
          try simp at b_22
          obtain ⟨e_23, h_24, hp⟩ := bind_some hp
          have b_25 := at_lo h_24
          have b_26 := at_hi h_24
          try simp at b_25
          try simp at b_26
          have c_27 := seg_at' h_24 0 1 (by decide) (ds := [.sc (.int .i64 e_23)]) rfl
          try simp at c_27
          cases hp
          try simp [q_6, q_7, q_8, q_9, q_10, h_12, h_16, h_20, b_22, b_25, b_26, c_27]
          refine goal_next ?_
          rw [I_3_]
          exact ⟨by simp [restrict_env, q_6, q_7, q_8, q_9, q_10, h_12, h_16, h_20, b_22, b_25, b_26, c_27], by simp [restrict_env, q_6, q_7, q_8, q_9, q_10, h_12, h_16, h_20, b_22, b_25, b_26, c_27], by simp [restrict_env, q_6, q_7, q_8, q_9, q_10, h_12, h_16, h_20, b_22, b_25, b_26, c_27], by simp [restrict_env, q_6, q_7, q_8, q_9, q_10, h_12, h_16, h_20, b_22, b_25, b_26, c_27], by simp [restrict_mem, q_6, q_7, q_8, q_9, q_10, h_12, h_16, h_20, b_22, b_25, b_26, c_27], NoBox.restrict (by intro k hk hb; simp at hk hb; simp [hk, hb, q_6, q_7, q_8, q_9, q_10, h_12, h_16, h_20, b_22, b_25, b_26, c_27, hn_11 k (by simp [hk, hb])])⟩
      · try simp at h_16
        cases hp
        try simp [q_6, q_7, q_8, q_9, q_10, h_12, h_16]
        refine goal_outR ?_
        rw [X_4_]
        exact ⟨_, rfl, by simp [restrict_env, q_6, q_7, q_8, q_9, q_10, h_12, h_16], by simp [restrict_mem, q_6, q_7, q_8, q_9, q_10, h_12, h_16], NoBox.restrict (by intro k hk hb; simp at hk hb; simp [hk, hb, q_6, q_7, q_8, q_9, q_10, h_12, h_16, hn_11 k (by simp [hk, hb])])⟩
    · try simp at h_12
      try simp [q_6, q_7, q_8, q_9, q_10, h_12]
      rcases cond_cases hp with ⟨h_28, hp⟩ | ⟨h_28, hp⟩
      · try simp at h_28
        obtain ⟨y_29, h_30, hp⟩ := bind_some hp
        have c_31 := C154_eq h_30
        simp at c_31
        try simp [q_6, q_7, q_8, q_9, q_10, h_12, h_28, c_31]
        rcases cond_cases hp with ⟨h_32, hp⟩ | ⟨h_32, hp⟩
        · try simp at h_32
          obtain ⟨y_33, h_34, hp⟩ := bind_some hp
          have c_35 := C155_eq h_34
          simp at c_35
          try simp [q_6, q_7, q_8, q_9, q_10, h_12, h_28, h_32, c_35]
          rcases cond_cases hp with ⟨h_36, hp⟩ | ⟨h_36, hp⟩
          · try simp at h_36
            cases hp
            try simp [q_6, q_7, q_8, q_9, q_10, h_12, h_28, h_32, h_36]
            refine goal_outX ?_
            rw [X_4_]
            exact ⟨_, rfl, by simp [restrict_env, q_6, q_7, q_8, q_9, q_10, h_12, h_28, h_32, h_36], by simp [restrict_mem, q_6, q_7, q_8, q_9, q_10, h_12, h_28, h_32, h_36], NoBox.restrict (by intro k hk hb; simp at hk hb; simp [hk, hb, q_6, q_7, q_8, q_9, q_10, h_12, h_28, h_32, h_36, hn_11 k (by simp [hk, hb])])⟩
          · try simp at h_36
            obtain ⟨_, h_37, hp⟩ := bind_some hp
            have b_38 := room_ok h_37
            try simp at b_38
            obtain ⟨e_39, h_40, hp⟩ := bind_some hp
            have b_41 := at_lo h_40
            have b_42 := at_hi h_40
            try simp at b_41
            try simp at b_42
            have c_43 := seg_at' h_40 0 1 (by decide) (ds := [.sc (.int .i64 e_39)]) rfl
            try simp at c_43
            cases hp
            try simp [q_6, q_7, q_8, q_9, q_10, h_12, h_28, h_32, h_36, b_38, b_41, b_42, c_43]
            refine goal_next ?_
            rw [I_3_]
            exact ⟨by simp [restrict_env, q_6, q_7, q_8, q_9, q_10, h_12, h_28, h_32, h_36, b_38, b_41, b_42, c_43], by simp [restrict_env, q_6, q_7, q_8, q_9, q_10, h_12, h_28, h_32, h_36, b_38, b_41, b_42, c_43], by simp [restrict_env, q_6, q_7, q_8, q_9, q_10, h_12, h_28, h_32, h_36, b_38, b_41, b_42, c_43], by simp [restrict_env, q_6, q_7, q_8, q_9, q_10, h_12, h_28, h_32, h_36, b_38, b_41, b_42, c_43], by simp [restrict_mem, q_6, q_7, q_8, q_9, q_10, h_12, h_28, h_32, h_36, b_38, b_41, b_42, c_43], NoBox.restrict (by intro k hk hb; simp at hk hb; simp [hk, hb, q_6, q_7, q_8, q_9, q_10, h_12, h_28, h_32, h_36, b_38, b_41, b_42, c_43, hn_11 k (by simp [hk, hb])])⟩
        · try simp at h_32
          cases hp
          try simp [q_6, q_7, q_8, q_9, q_10, h_12, h_28, h_32]
          refine goal_outR ?_
          rw [X_4_]
          exact ⟨_, rfl, by simp [restrict_env, q_6, q_7, q_8, q_9, q_10, h_12, h_28, h_32], by simp [restrict_mem, q_6, q_7, q_8, q_9, q_10, h_12, h_28, h_32], NoBox.restrict (by intro k hk hb; simp at hk hb; simp [hk, hb, q_6, q_7, q_8, q_9, q_10, h_12, h_28, h_32, hn_11 k (by simp [hk, hb])])⟩
      · try simp at h_28
        cases hp
        try simp [q_6, q_7, q_8, q_9, q_10, h_12, h_28]
        refine goal_outX ?_
        rw [X_4_]
        exact ⟨_, rfl, by simp [restrict_env, q_6, q_7, q_8, q_9, q_10, h_12, h_28], by simp [restrict_mem, q_6, q_7, q_8, q_9, q_10, h_12, h_28], NoBox.restrict (by intro k hk hb; simp at hk hb; simp [hk, hb, q_6, q_7, q_8, q_9, q_10, h_12, h_28, hn_11 k (by simp [hk, hb])])⟩
  · intro out hX
    rw [X_4_] at hX
    rcases r_44 with r_44 | r_44
    · simp only [Sum.elim_inl, Sum.elim_inr] at hX hp
      obtain ⟨σ_46, rfl, q_47, q_48, hn_49⟩ := hX
      cases hp
      simp [Goal, FnEnd, q_47, q_48]
    · simp only [Sum.elim_inl, Sum.elim_inr] at hX hp
      obtain ⟨σ_50, rfl, q_51, q_52, hn_53⟩ := hX
      cases hp
      simp [Goal, FnEnd, q_51, q_52]
theorem pc156 : PC Try.prog 156 C156 := pc_of (g := g156) (ctxOK_of [(154, C154), (155, C155)] rfl ⟨pc154, pc155, trivial⟩) ⟨Try.f156, Try.func156, by kernel_rfl, by kernel_rfl⟩ fun x y h => w156 h

noncomputable def C108 : List AV → Option AV := specP (X := THeap × Unit) fun x => impl_Heap_isCyclic x.1
theorem C108_eq {h_} {y} (h : impl_Heap_isCyclic h_ = some y) : C108 [av .shr h_] = some (Res.res y) := specP_eq (X := THeap × Unit) (F := fun x => impl_Heap_isCyclic x.1) (x := (h_, ())) h
noncomputable def g108 : Cfg := { P := Try.prog, take := [], keep := [((108, 2), { hd := [1, 6, 7], bx := [], ex := [], rt := [2] })], gho := [], ctx := [(155, C155), (156, C156)] }
@[simp] theorem g108_P : g108.P = Try.prog := rfl
@[simp] theorem g108_t : g108.take = [] := rfl
@[simp] theorem g108_g : g108.gho = [] := rfl
@[simp] theorem g108_155 : lookN 155 g108.ctx = some C155 := rfl
@[simp] theorem g108_156 : lookN 156 g108.ctx = some C156 := rfl
set_option maxHeartbeats 4000000 in
set_option maxRecDepth 100000 in
theorem w108 {h_} {y} (hp : impl_Heap_isCyclic h_ = some y) : ∃ m, callo g108 0 108 [av .shr h_] mem0 = some (Res.res y, m) := by
  refine start_fn (Try.f108.body.getD .skip) [.tmp 2] rfl rfl Try.func108 (by kernel_rfl) (by kernel_rfl) (by simp [Try.ntmps108]) rfl ?_
  unfold impl_Heap_isCyclic at hp
  simp [Try.f108]
  obtain ⟨r_24, h_25, hp⟩ := bind_some hp
  obtain ⟨I_3, I_3_⟩ : ∃ I : Int → St → Prop, I = (fun (s_1 : Int) (σ : St) => σ.env 1 = .one (.ptr (1, 1) 0) ∧ σ.env 6 = .one (.s (.int .i64 (h_.next.length : Int))) ∧ σ.env 7 = .one (.s (.int .i64 s_1)) ∧ σ.mem (1, 1) = some [(.l .shr h_.vars.length (encL h_.vars)), (.l .shr h_.next.length (encL h_.next))] ∧ NoBox [(1, 1)] σ.mem) := ⟨_, rfl⟩
  obtain ⟨X_4, X_4_⟩ : ∃ X : ((Bool) ⊕ (Unit)) → Out → Prop, X = (fun (r_24 : (Bool) ⊕ (Unit)) (out : Out) => Sum.elim (fun r_24 => ∃ σ : St, out = .ret σ ∧ σ.env 2 = .one (.s (.bool r_24)) ∧ σ.mem (1, 1) = some [(.l .shr h_.vars.length (encL h_.vars)), (.l .shr h_.next.length (encL h_.next))] ∧ NoBox [(1, 1)] σ.mem) (fun r_24 => ∃ σ : St, out = .exit 0 σ ∧ σ.mem (1, 1) = some [(.l .shr h_.vars.length (encL h_.vars)), (.l .shr h_.next.length (encL h_.next))] ∧ NoBox [(1, 1)] σ.mem) r_24) := ⟨_, rfl⟩
  refine loopP ({ hd := [1, 6, 7], bx := [], ex := [], rt := [2] }) I_3 X_4 h_25 (by exact rfl) ?_ ?_ ?_
  · rw [I_3_]
    exact ⟨by simp [restrict_env], by simp [restrict_env], by simp [restrict_env], by simp [restrict_mem], NoBox.restrict (by intro k hk hb; simp at hk hb; simp [hk, hb])⟩
  · intro s_1 σ_5 a_2 hI hp
    rw [I_3_] at hI
    obtain ⟨q_6, q_7, q_8, q_9, hn_10⟩ := hI
    try simp [q_6, q_7, q_8, q_9]
    rcases cond_cases hp with ⟨h_11, hp⟩ | ⟨h_11, hp⟩
    · try simp at h_11
      obtain ⟨e_12, h_13, hp⟩ := bind_some hp
      have b_14 := at_lo h_13
      have b_15 := at_hi h_13
      try simp at b_14
      try simp at b_15
      have c_16 := seg_at' h_13 0 1 (by decide) (ds := [.sc (.int .i64 e_12)]) rfl
      try simp at c_16
      obtain ⟨y_17, h_18, hp⟩ := bind_some hp
      have c_19 := C156_eq h_18
      simp at c_19
      obtain ⟨y_20, h_21, hp⟩ := bind_some hp
      have c_22 := C155_eq h_21
      simp at c_22
      try simp [q_6, q_7, q_8, q_9, h_11, b_14, b_15, c_16, c_19, c_22]
      rcases cond_cases hp with ⟨h_23, hp⟩ | ⟨h_23, hp⟩
      · try simp at h_23
        cases hp
        try simp [q_6, q_7, q_8, q_9, h_11, h_23]
        refine goal_outR ?_
        rw [X_4_]
        exact ⟨_, rfl, by simp [restrict_env, q_6, q_7, q_8, q_9, h_11, h_23], by simp [restrict_mem, q_6, q_7, q_8, q_9, h_11, h_23], NoBox.restrict (by intro k hk hb; simp at hk hb; simp [hk, hb, q_6, q_7, q_8, q_9, h_11, h_23, hn_10 k (by simp [hk, hb])])⟩
      · try simp at h_23
        cases hp
        try simp [q_6, q_7, q_8, q_9, h_11, h_23]
        refine goal_next ?_
        rw [I_3_]
        exact ⟨by simp [restrict_env, q_6, q_7, q_8, q_9, h_11, h_23], by simp [restrict_env, q_6, q_7, q_8, q_9, h_11, h_23], by simp [restrict_env, q_6, q_7, q_8, q_9, h_11, h_23], by simp [restrict_mem, q_6, q_7, q_8, q_9, h_11, h_23], NoBox.restrict (by intro k hk hb; simp at hk hb; simp [hk, hb, q_6, q_7, q_8, q_9, h_11, h_23, hn_10 k (by simp [hk, hb])])⟩
    · try simp at h_11
      cases hp
      try simp [q_6, q_7, q_8, q_9, h_11]
      refine goal_outX ?_
      rw [X_4_]
      exact ⟨_, rfl, by simp [restrict_mem, q_6, q_7, q_8, q_9, h_11], NoBox.restrict (by intro k hk hb; simp at hk hb; simp [hk, hb, q_6, q_7, q_8, q_9, h_11, hn_10 k (by simp [hk, hb])])⟩
  · intro out hX
    rw [X_4_] at hX
    rcases r_24 with r_24 | r_24
    · simp only [Sum.elim_inl, Sum.elim_inr] at hX hp
      obtain ⟨σ_26, rfl, q_27, q_28, hn_29⟩ := hX
      cases hp
      simp [Goal, FnEnd, q_27, q_28]
    · simp only [Sum.elim_inl, Sum.elim_inr] at hX hp
      obtain ⟨σ_30, rfl, q_31, hn_32⟩ := hX
      cases hp
      simp [Goal, FnEnd, q_31]
theorem pc108 : PC Try.prog 108 C108 := pc_of (g := g108) (ctxOK_of [(155, C155), (156, C156)] rfl ⟨pc155, pc156, trivial⟩) ⟨Try.f108, Try.func108, by kernel_rfl, by kernel_rfl⟩ fun x y h => w108 h

noncomputable def C109 : List AV → Option AV := specP (X := THeap × Unit) fun x => impl_Heap_met x.1
theorem C109_eq {h_} {y} (h : impl_Heap_met h_ = some y) : C109 [av .shr h_] = some (Res.res y) := specP_eq (X := THeap × Unit) (F := fun x => impl_Heap_met x.1) (x := (h_, ())) h
noncomputable def g109 : Cfg := { P := Try.prog, take := [(109, 28), (109, 34)], keep := [((109, 3), { hd := [1, 3, 10, 11, 12], bx := [], ex := [3], rt := [2] }), ((109, 6), { hd := [1, 3, 10, 11, 12, 18, 19, 20], bx := [], ex := [1, 3, 10, 11, 12], rt := [2] })], gho := [], ctx := [(155, C155), (156, C156)] }
@[simp] theorem g109_P : g109.P = Try.prog := rfl
@[simp] theorem g109_t : g109.take = [(109, 28), (109, 34)] := rfl
@[simp] theorem g109_g : g109.gho = [] := rfl
@[simp] theorem g109_155 : lookN 155 g109.ctx = some C155 := rfl
@[simp] theorem g109_156 : lookN 156 g109.ctx = some C156 := rfl
set_option maxHeartbeats 4000000 in
set_option maxRecDepth 100000 in
theorem w109 {h_} {y} (hp : impl_Heap_met h_ = some y) : ∃ m, callo g109 0 109 [av .shr h_] mem0 = some (Res.res y, m) := by
  refine start_fn (Try.f109.body.getD .skip) [.tmp 2] rfl rfl Try.func109 (by kernel_rfl) (by kernel_rfl) (by simp [Try.ntmps109]) rfl ?_
  unfold impl_Heap_met at hp
  simp [Try.f109]
  obtain ⟨r_59, h_60, hp⟩ := bind_some hp
  obtain ⟨I_3, I_3_⟩ : ∃ I : (List Int) × Int → St → Prop, I = (fun (s_1 : (List Int) × Int) (σ : St) => σ.env 1 = .one (.ptr (1, 1) 0) ∧ σ.env 3 = .one (.l .own s_1.1.length (encL s_1.1)) ∧ σ.env 10 = .one (.l .shr h_.vars.length (encL h_.vars)) ∧ σ.env 11 = .one (.s (.int .i64 (h_.vars.length : Int))) ∧ σ.env 12 = .one (.s (.int .i64 s_1.2)) ∧ σ.mem (1, 1) = some [(.l .shr h_.vars.length (encL h_.vars)), (.l .shr h_.next.length (encL h_.next))] ∧ NoBox [(1, 1)] σ.mem) := ⟨_, rfl⟩
  obtain ⟨X_4, X_4_⟩ : ∃ X : (List Int) → Out → Prop, X = (fun (r_59 : (List Int)) (out : Out) => ∃ σ : St, out = .exit 0 σ ∧ σ.env 3 = .one (.l .own r_59.length (encL r_59)) ∧ σ.mem (1, 1) = some [(.l .shr h_.vars.length (encL h_.vars)), (.l .shr h_.next.length (encL h_.next))] ∧ NoBox [(1, 1)] σ.mem) := ⟨_, rfl⟩
  refine loopP ({ hd := [1, 3, 10, 11, 12], bx := [], ex := [3], rt := [2] }) I_3 X_4 h_60 (by exact rfl) ?_ ?_ ?_
  · rw [I_3_]
    exact ⟨by simp [restrict_env], by simp [restrict_env], by simp [restrict_env], by simp [restrict_env], by simp [restrict_env], by simp [restrict_mem], NoBox.restrict (by intro k hk hb; simp at hk hb; simp [hk, hb])⟩
  · intro s_1 σ_5 a_2 hI hp
    rw [I_3_] at hI
    obtain ⟨q_6, q_7, q_8, q_9, q_10, q_11, hn_12⟩ := hI
    try simp [q_6, q_7, q_8, q_9, q_10, q_11]
    rcases cond_cases hp with ⟨h_13, hp⟩ | ⟨h_13, hp⟩
    · try simp at h_13
      obtain ⟨e_14, h_15, hp⟩ := bind_some hp
      have b_16 := at_lo h_15
      have b_17 := at_hi h_15
      try simp at b_16
      try simp at b_17
      have c_18 := seg_at' h_15 0 1 (by decide) (ds := [.sc (.int .i64 e_14)]) rfl
      try simp at c_18
      obtain ⟨y_19, h_20, hp⟩ := bind_some hp
      have c_21 := C156_eq h_20
      simp at c_21
      try simp [q_6, q_7, q_8, q_9, q_10, q_11, h_13, b_16, b_17, c_18, c_21]
      obtain ⟨r_49, h_50, hp⟩ := bind_some hp
      obtain ⟨I_24, I_24_⟩ : ∃ I : Int × (List Int) → St → Prop, I = (fun (s_22 : Int × (List Int)) (σ : St) => σ.env 1 = .one (.ptr (1, 1) 0) ∧ σ.env 3 = .one (.l .own s_22.2.length (encL s_22.2)) ∧ σ.env 10 = .one (.l .shr h_.vars.length (encL h_.vars)) ∧ σ.env 11 = .one (.s (.int .i64 (h_.vars.length : Int))) ∧ σ.env 12 = .one (.s (.int .i64 s_1.2)) ∧ σ.env 18 = .one (.l .own y_19.length (encL y_19)) ∧ σ.env 19 = .one (.s (.int .i64 (y_19.length : Int))) ∧ σ.env 20 = .one (.s (.int .i64 s_22.1)) ∧ σ.mem (1, 1) = some [(.l .shr h_.vars.length (encL h_.vars)), (.l .shr h_.next.length (encL h_.next))] ∧ NoBox [(1, 1)] σ.mem) := ⟨_, rfl⟩
      obtain ⟨X_25, X_25_⟩ : ∃ X : (List Int) → Out → Prop, X = (fun (r_49 : (List Int)) (out : Out) => ∃ σ : St, out = .exit 2 σ ∧ σ.env 1 = .one (.ptr (1, 1) 0) ∧ σ.env 3 = .one (.l .own r_49.length (encL r_49)) ∧ σ.env 10 = .one (.l .shr h_.vars.length (encL h_.vars)) ∧ σ.env 11 = .one (.s (.int .i64 (h_.vars.length : Int))) ∧ σ.env 12 = .one (.s (.int .i64 s_1.2)) ∧ σ.mem (1, 1) = some [(.l .shr h_.vars.length (encL h_.vars)), (.l .shr h_.next.length (encL h_.next))] ∧ NoBox [(1, 1)] σ.mem) := ⟨_, rfl⟩
      refine loopP ({ hd := [1, 3, 10, 11, 12, 18, 19, 20], bx := [], ex := [1, 3, 10, 11, 12], rt := [2] }) I_24 X_25 h_50 (by exact rfl) ?_ ?_ ?_
      · rw [I_24_]
        exact ⟨by simp [restrict_env, q_6, q_7, q_8, q_9, q_10, q_11, h_13], by simp [restrict_env, q_6, q_7, q_8, q_9, q_10, q_11, h_13], by simp [restrict_env, q_6, q_7, q_8, q_9, q_10, q_11, h_13], by simp [restrict_env, q_6, q_7, q_8, q_9, q_10, q_11, h_13], by simp [restrict_env, q_6, q_7, q_8, q_9, q_10, q_11, h_13], by simp [restrict_env, q_6, q_7, q_8, q_9, q_10, q_11, h_13], by simp [restrict_env, q_6, q_7, q_8, q_9, q_10, q_11, h_13], by simp [restrict_env, q_6, q_7, q_8, q_9, q_10, q_11, h_13], by simp [restrict_mem, q_6, q_7, q_8, q_9, q_10, q_11, h_13], NoBox.restrict (by intro k hk hb; simp at hk hb; simp [hk, hb, q_6, q_7, q_8, q_9, q_10, q_11, h_13, hn_12 k (by simp [hk, hb])])⟩
      · intro s_22 σ_26 a_23 hI hp
        rw [I_24_] at hI
        obtain ⟨q_27, q_28, q_29, q_30, q_31, q_32, q_33, q_34, q_35, hn_36⟩ := hI
        try simp [h_13, q_27, q_28, q_29, q_30, q_31, q_32, q_33, q_34, q_35]
        rcases cond_cases hp with ⟨h_37, hp⟩ | ⟨h_37, hp⟩
        · try simp at h_37
          obtain ⟨e_38, h_39, hp⟩ := bind_some hp
          have b_40 := at_lo h_39
          have b_41 := at_hi h_39
          try simp at b_40
          try simp at b_41
          have c_42 := seg_at' h_39 0 1 (by decide) (ds := [.sc (.int .i64 e_38)]) rfl
          try simp at c_42
          obtain ⟨y_43, h_44, hp⟩ := bind_some hp
          have c_45 := C155_eq h_44
          simp at c_45
          try simp [h_13, q_27, q_28, q_29, q_30, q_31, q_32, q_33, q_34, q_35, h_37, b_40, b_41, c_42, c_45]
          rcases cond_cases hp with ⟨h_46, hp⟩ | ⟨h_46, hp⟩
          · try simp at h_46
            cases hp
            try simp [h_13, q_27, q_28, q_29, q_30, q_31, q_32, q_33, q_34, q_35, h_37, h_46]
            refine goal_next ?_
            rw [I_24_]
            exact ⟨by simp [restrict_env, h_13, q_27, q_28, q_29, q_30, q_31, q_32, q_33, q_34, q_35, h_37, h_46], by simp [restrict_env, h_13, q_27, q_28, q_29, q_30, q_31, q_32, q_33, q_34, q_35, h_37, h_46], by simp [restrict_env, h_13, q_27, q_28, q_29, q_30, q_31, q_32, q_33, q_34, q_35, h_37, h_46], by simp [restrict_env, h_13, q_27, q_28, q_29, q_30, q_31, q_32, q_33, q_34, q_35, h_37, h_46], by simp [restrict_env, h_13, q_27, q_28, q_29, q_30, q_31, q_32, q_33, q_34, q_35, h_37, h_46], by simp [restrict_env, h_13, q_27, q_28, q_29, q_30, q_31, q_32, q_33, q_34, q_35, h_37, h_46], by simp [restrict_env, h_13, q_27, q_28, q_29, q_30, q_31, q_32, q_33, q_34, q_35, h_37, h_46], by simp [restrict_env, h_13, q_27, q_28, q_29, q_30, q_31, q_32, q_33, q_34, q_35, h_37, h_46], by simp [restrict_mem, h_13, q_27, q_28, q_29, q_30, q_31, q_32, q_33, q_34, q_35, h_37, h_46], NoBox.restrict (by intro k hk hb; simp at hk hb; simp [hk, hb, h_13, q_27, q_28, q_29, q_30, q_31, q_32, q_33, q_34, q_35, h_37, h_46, hn_36 k (by simp [hk, hb])])⟩
          · try simp at h_46
            obtain ⟨_, h_47, hp⟩ := bind_some hp
            have b_48 := room_ok h_47
            try simp at b_48
            cases hp
            try simp [h_13, q_27, q_28, q_29, q_30, q_31, q_32, q_33, q_34, q_35, h_37, h_46, b_48]
            refine goal_next ?_
            rw [I_24_]
            exact ⟨by simp [restrict_env, h_13, q_27, q_28, q_29, q_30, q_31, q_32, q_33, q_34, q_35, h_37, h_46, b_48], by simp [restrict_env, h_13, q_27, q_28, q_29, q_30, q_31, q_32, q_33, q_34, q_35, h_37, h_46, b_48], by simp [restrict_env, h_13, q_27, q_28, q_29, q_30, q_31, q_32, q_33, q_34, q_35, h_37, h_46, b_48], by simp [restrict_env, h_13, q_27, q_28, q_29, q_30, q_31, q_32, q_33, q_34, q_35, h_37, h_46, b_48], by simp [restrict_env, h_13, q_27, q_28, q_29, q_30, q_31, q_32, q_33, q_34, q_35, h_37, h_46, b_48], by simp [restrict_env, h_13, q_27, q_28, q_29, q_30, q_31, q_32, q_33, q_34, q_35, h_37, h_46, b_48], by simp [restrict_env, h_13, q_27, q_28, q_29, q_30, q_31, q_32, q_33, q_34, q_35, h_37, h_46, b_48], by simp [restrict_env, h_13, q_27, q_28, q_29, q_30, q_31, q_32, q_33, q_34, q_35, h_37, h_46, b_48], by simp [restrict_mem, h_13, q_27, q_28, q_29, q_30, q_31, q_32, q_33, q_34, q_35, h_37, h_46, b_48], NoBox.restrict (by intro k hk hb; simp at hk hb; simp [hk, hb, h_13, q_27, q_28, q_29, q_30, q_31, q_32, q_33, q_34, q_35, h_37, h_46, b_48, hn_36 k (by simp [hk, hb])])⟩
        · try simp at h_37
          cases hp
          try simp [h_13, q_27, q_28, q_29, q_30, q_31, q_32, q_33, q_34, q_35, h_37]
          refine goal_outX ?_
          rw [X_25_]
          exact ⟨_, rfl, by simp [restrict_env, h_13, q_27, q_28, q_29, q_30, q_31, q_32, q_33, q_34, q_35, h_37], by simp [restrict_env, h_13, q_27, q_28, q_29, q_30, q_31, q_32, q_33, q_34, q_35, h_37], by simp [restrict_env, h_13, q_27, q_28, q_29, q_30, q_31, q_32, q_33, q_34, q_35, h_37], by simp [restrict_env, h_13, q_27, q_28, q_29, q_30, q_31, q_32, q_33, q_34, q_35, h_37], by simp [restrict_env, h_13, q_27, q_28, q_29, q_30, q_31, q_32, q_33, q_34, q_35, h_37], by simp [restrict_mem, h_13, q_27, q_28, q_29, q_30, q_31, q_32, q_33, q_34, q_35, h_37], NoBox.restrict (by intro k hk hb; simp at hk hb; simp [hk, hb, h_13, q_27, q_28, q_29, q_30, q_31, q_32, q_33, q_34, q_35, h_37, hn_36 k (by simp [hk, hb])])⟩
      · intro out hX
        rw [X_25_] at hX
        obtain ⟨σ_51, rfl, q_52, q_53, q_54, q_55, q_56, q_57, hn_58⟩ := hX
        cases hp
        try simp [h_13, q_52, q_53, q_54, q_55, q_56, q_57]
        refine goal_next ?_
        rw [I_3_]
        exact ⟨by simp [restrict_env, h_13, q_52, q_53, q_54, q_55, q_56, q_57], by simp [restrict_env, h_13, q_52, q_53, q_54, q_55, q_56, q_57], by simp [restrict_env, h_13, q_52, q_53, q_54, q_55, q_56, q_57], by simp [restrict_env, h_13, q_52, q_53, q_54, q_55, q_56, q_57], by simp [restrict_env, h_13, q_52, q_53, q_54, q_55, q_56, q_57], by simp [restrict_mem, h_13, q_52, q_53, q_54, q_55, q_56, q_57], NoBox.restrict (by intro k hk hb; simp at hk hb; simp [hk, hb, h_13, q_52, q_53, q_54, q_55, q_56, q_57, hn_58 k (by simp [hk, hb])])⟩
    · try simp at h_13
      cases hp
      try simp [q_6, q_7, q_8, q_9, q_10, q_11, h_13]
      refine goal_outX ?_
      rw [X_4_]
      exact ⟨_, rfl, by simp [restrict_env, q_6, q_7, q_8, q_9, q_10, q_11, h_13], by simp [restrict_mem, q_6, q_7, q_8, q_9, q_10, q_11, h_13], NoBox.restrict (by intro k hk hb; simp at hk hb; simp [hk, hb, q_6, q_7, q_8, q_9, q_10, q_11, h_13, hn_12 k (by simp [hk, hb])])⟩
  · intro out hX
    rw [X_4_] at hX
    obtain ⟨σ_61, rfl, q_62, q_63, hn_64⟩ := hX
    cases hp
    simp [Goal, FnEnd, q_62, q_63]
theorem pc109 : PC Try.prog 109 C109 := pc_of (g := g109) (ctxOK_of [(155, C155), (156, C156)] rfl ⟨pc155, pc156, trivial⟩) ⟨Try.f109, Try.func109, by kernel_rfl, by kernel_rfl⟩ fun x y h => w109 h

noncomputable def C51 : List AV → Option AV := specP (X := Int × THeap × Unit) fun x => impl_IsHeap x.1 x.2.1
theorem C51_eq {vars h_} {y} (h : impl_IsHeap vars h_ = some y) : C51 [av .shr vars, av .shr h_] = some (Res.res y) := specP_eq (X := Int × THeap × Unit) (F := fun x => impl_IsHeap x.1 x.2.1) (x := (vars, h_, ())) h
noncomputable def g51 : Cfg := { P := Try.prog, take := [], keep := [((51, 5), { hd := [3, 5, 35, 36, 37], bx := [], ex := [3, 5], rt := [4] })], gho := [], ctx := [(49, C49), (107, C107), (108, C108), (109, C109)] }
@[simp] theorem g51_P : g51.P = Try.prog := rfl
@[simp] theorem g51_t : g51.take = [] := rfl
@[simp] theorem g51_g : g51.gho = [] := rfl
@[simp] theorem g51_49 : lookN 49 g51.ctx = some C49 := rfl
@[simp] theorem g51_107 : lookN 107 g51.ctx = some C107 := rfl
@[simp] theorem g51_108 : lookN 108 g51.ctx = some C108 := rfl
@[simp] theorem g51_109 : lookN 109 g51.ctx = some C109 := rfl
set_option maxHeartbeats 4000000 in
set_option maxRecDepth 100000 in
theorem w51 {vars h_} {y} (hp : impl_IsHeap vars h_ = some y) : ∃ m, callo g51 0 51 [av .shr vars, av .shr h_] mem0 = some (Res.res y, m) := by
  refine start_fn (Try.f51.body.getD .skip) [.tmp 4] rfl rfl Try.func51 (by kernel_rfl) (by kernel_rfl) (by simp [Try.ntmps51]) rfl ?_
  unfold impl_IsHeap at hp
  obtain ⟨y_1, h_2, hp⟩ := bind_some hp
  have c_3 := C49_eq h_2
  simp at c_3
  simp [Try.f51, c_3]
  rcases cond_cases hp with ⟨h_4, hp⟩ | ⟨h_4, hp⟩
  · try simp at h_4
    try simp [h_4]
    rcases cond_cases hp with ⟨h_5, hp⟩ | ⟨h_5, hp⟩
    · try simp at h_5
      cases hp
      simp [Goal, FnEnd, h_4, h_5]
    · try simp at h_5
      try simp [h_4, h_5]
      rcases cond_cases hp with ⟨h_6, hp⟩ | ⟨h_6, hp⟩
      · try simp at h_6
        cases hp
        simp [Goal, FnEnd, h_4, h_5, h_6]
      · try simp at h_6
        obtain ⟨y_7, h_8, hp⟩ := bind_some hp
        have c_9 := C107_eq h_8
        simp at c_9
        try simp [h_4, h_5, h_6, c_9]
        rcases cond_cases hp with ⟨h_10, hp⟩ | ⟨h_10, hp⟩
        · try simp at h_10
          obtain ⟨y_11, h_12, hp⟩ := bind_some hp
          have c_13 := C108_eq h_12
          simp at c_13
          try simp [h_4, h_5, h_6, h_10, c_13]
          rcases cond_cases hp with ⟨h_14, hp⟩ | ⟨h_14, hp⟩
          · try simp at h_14
            cases hp
            simp [Goal, FnEnd, h_4, h_5, h_6, h_10, h_14]
          · try simp at h_14
            obtain ⟨y_15, h_16, hp⟩ := bind_some hp
            have c_17 := C109_eq h_16
            simp at c_17
            try simp [h_4, h_5, h_6, h_10, h_14, c_17]
            obtain ⟨r_37, h_38, hp⟩ := bind_some hp
            obtain ⟨I_20, I_20_⟩ : ∃ I : Int → St → Prop, I = (fun (s_18 : Int) (σ : St) => σ.env 3 = .one (.ptr (1, 3) 0) ∧ σ.env 5 = .one (.l .own y_15.length (encL y_15)) ∧ σ.env 35 = .one (.l .bor y_15.length (encL y_15)) ∧ σ.env 36 = .one (.s (.int .i64 (y_15.length : Int))) ∧ σ.env 37 = .one (.s (.int .i64 s_18)) ∧ σ.mem (1, 3) = some [(.l .shr h_.vars.length (encL h_.vars)), (.l .shr h_.next.length (encL h_.next))] ∧ NoBox [(1, 3)] σ.mem) := ⟨_, rfl⟩
            obtain ⟨X_21, X_21_⟩ : ∃ X : ((Unit) ⊕ (Unit)) → Out → Prop, X = (fun (r_37 : (Unit) ⊕ (Unit)) (out : Out) => Sum.elim (fun r_37 => ∃ σ : St, out = .ret σ ∧ σ.env 4 = .one (.s (.bool false)) ∧ σ.mem (1, 3) = some [(.l .shr h_.vars.length (encL h_.vars)), (.l .shr h_.next.length (encL h_.next))] ∧ NoBox [(1, 3)] σ.mem) (fun r_37 => ∃ σ : St, out = .exit 0 σ ∧ σ.env 3 = .one (.ptr (1, 3) 0) ∧ σ.env 5 = .one (.l .own y_15.length (encL y_15)) ∧ σ.mem (1, 3) = some [(.l .shr h_.vars.length (encL h_.vars)), (.l .shr h_.next.length (encL h_.next))] ∧ NoBox [(1, 3)] σ.mem) r_37) := ⟨_, rfl⟩
            refine loopP ({ hd := [3, 5, 35, 36, 37], bx := [], ex := [3, 5], rt := [4] }) I_20 X_21 h_38 (by exact rfl) ?_ ?_ ?_
            · rw [I_20_]
              exact ⟨by simp [restrict_env, h_4, h_5, h_6, h_10, h_14], by simp [restrict_env, h_4, h_5, h_6, h_10, h_14], by simp [restrict_env, h_4, h_5, h_6, h_10, h_14], by simp [restrict_env, h_4, h_5, h_6, h_10, h_14], by simp [restrict_env, h_4, h_5, h_6, h_10, h_14], by simp [restrict_mem, h_4, h_5, h_6, h_10, h_14], NoBox.restrict (by intro k hk hb; simp at hk hb; simp [hk, hb, h_4, h_5, h_6, h_10, h_14])⟩
            · intro s_18 σ_22 a_19 hI hp
              rw [I_20_] at hI
              obtain ⟨q_23, q_24, q_25, q_26, q_27, q_28, hn_29⟩ := hI
              try simp [h_4, h_5, h_6, h_10, h_14, q_23, q_24, q_25, q_26, q_27, q_28]
              rcases cond_cases hp with ⟨h_30, hp⟩ | ⟨h_30, hp⟩
              · try simp at h_30
                obtain ⟨e_31, h_32, hp⟩ := bind_some hp
                have b_33 := at_lo h_32
                have b_34 := at_hi h_32
                try simp at b_33
                try simp at b_34
                have c_35 := seg_at' h_32 0 1 (by decide) (ds := [.sc (.int .i64 e_31)]) rfl
                try simp at c_35
                try simp [h_4, h_5, h_6, h_10, h_14, q_23, q_24, q_25, q_26, q_27, q_28, h_30, b_33, b_34, c_35]
                rcases cond_cases hp with ⟨h_36, hp⟩ | ⟨h_36, hp⟩
                · try simp at h_36
                  cases hp
                  try simp [h_4, h_5, h_6, h_10, h_14, q_23, q_24, q_25, q_26, q_27, q_28, h_30, h_36]
                  refine goal_outR ?_
                  rw [X_21_]
                  exact ⟨_, rfl, by simp [restrict_env, h_4, h_5, h_6, h_10, h_14, q_23, q_24, q_25, q_26, q_27, q_28, h_30, h_36], by simp [restrict_mem, h_4, h_5, h_6, h_10, h_14, q_23, q_24, q_25, q_26, q_27, q_28, h_30, h_36], NoBox.restrict (by intro k hk hb; simp at hk hb; simp [hk, hb, h_4, h_5, h_6, h_10, h_14, q_23, q_24, q_25, q_26, q_27, q_28, h_30, h_36, hn_29 k (by simp [hk, hb])])⟩
                · try simp at h_36
                  cases hp
                  try simp [h_4, h_5, h_6, h_10, h_14, q_23, q_24, q_25, q_26, q_27, q_28, h_30, h_36]
                  refine goal_next ?_
                  rw [I_20_]
                  exact ⟨by simp [restrict_env, h_4, h_5, h_6, h_10, h_14, q_23, q_24, q_25, q_26, q_27, q_28, h_30, h_36], by simp [restrict_env, h_4, h_5, h_6, h_10, h_14, q_23, q_24, q_25, q_26, q_27, q_28, h_30, h_36], by simp [restrict_env, h_4, h_5, h_6, h_10, h_14, q_23, q_24, q_25, q_26, q_27, q_28, h_30, h_36], by simp [restrict_env, h_4, h_5, h_6, h_10, h_14, q_23, q_24, q_25, q_26, q_27, q_28, h_30, h_36], by simp [restrict_env, h_4, h_5, h_6, h_10, h_14, q_23, q_24, q_25, q_26, q_27, q_28, h_30, h_36], by simp [restrict_mem, h_4, h_5, h_6, h_10, h_14, q_23, q_24, q_25, q_26, q_27, q_28, h_30, h_36], NoBox.restrict (by intro k hk hb; simp at hk hb; simp [hk, hb, h_4, h_5, h_6, h_10, h_14, q_23, q_24, q_25, q_26, q_27, q_28, h_30, h_36, hn_29 k (by simp [hk, hb])])⟩
              · try simp at h_30
                cases hp
                try simp [h_4, h_5, h_6, h_10, h_14, q_23, q_24, q_25, q_26, q_27, q_28, h_30]
                refine goal_outX ?_
                rw [X_21_]
                exact ⟨_, rfl, by simp [restrict_env, h_4, h_5, h_6, h_10, h_14, q_23, q_24, q_25, q_26, q_27, q_28, h_30], by simp [restrict_env, h_4, h_5, h_6, h_10, h_14, q_23, q_24, q_25, q_26, q_27, q_28, h_30], by simp [restrict_mem, h_4, h_5, h_6, h_10, h_14, q_23, q_24, q_25, q_26, q_27, q_28, h_30], NoBox.restrict (by intro k hk hb; simp at hk hb; simp [hk, hb, h_4, h_5, h_6, h_10, h_14, q_23, q_24, q_25, q_26, q_27, q_28, h_30, hn_29 k (by simp [hk, hb])])⟩
            · intro out hX
              rw [X_21_] at hX
              rcases r_37 with r_37 | r_37
              · simp only [Sum.elim_inl, Sum.elim_inr] at hX hp
                obtain ⟨σ_39, rfl, q_40, q_41, hn_42⟩ := hX
                cases hp
                simp [Goal, FnEnd, h_4, h_5, h_6, h_10, h_14, q_40, q_41]
              · simp only [Sum.elim_inl, Sum.elim_inr] at hX hp
                obtain ⟨σ_43, rfl, q_44, q_45, q_46, hn_47⟩ := hX
                cases hp
                simp [Goal, FnEnd, h_4, h_5, h_6, h_10, h_14, q_44, q_45, q_46]
        · try simp at h_10
          cases hp
          simp [Goal, FnEnd, h_4, h_5, h_6, h_10]
  · try simp at h_4
    cases hp
    simp [Goal, FnEnd, h_4]
theorem pc51 : PC Try.prog 51 C51 := pc_of (g := g51) (ctxOK_of [(49, C49), (107, C107), (108, C108), (109, C109)] rfl ⟨pc49, pc107, pc108, pc109, trivial⟩) ⟨Try.f51, Try.func51, by kernel_rfl, by kernel_rfl⟩ fun x y h => w51 h
end Go.Proofs
