import Derived.Test.YtahcfnjgllpkdaaEvA13
set_option linter.unusedSimpArgs false
set_option linter.unusedVariables false
set_option linter.unnecessarySimpa false
namespace Go.Proofs
open Go.Ev
noncomputable def C52 : List AV → Option AV := specP (X := THeap × Unit) fun x => impl_Heap_own x.1
theorem C52_eq {h_} {y} (h : impl_Heap_own h_ = some y) : C52 [av .shr h_] = some (Res.res y) := specP_eq (X := THeap × Unit) (F := fun x => impl_Heap_own x.1) (x := (h_, ())) h
noncomputable def g52 : Cfg := { P := Try.prog, take := [], keep := [], gho := [], ctx := [(106, C106)] }
@[simp] theorem g52_P : g52.P = Try.prog := rfl
@[simp] theorem g52_t : g52.take = [] := rfl
@[simp] theorem g52_g : g52.gho = [] := rfl
@[simp] theorem g52_106 : lookN 106 g52.ctx = some C106 := rfl
set_option maxHeartbeats 4000000 in
set_option maxRecDepth 100000 in
theorem w52 {h_} {y} (hp : impl_Heap_own h_ = some y) : ∃ m, callo g52 0 52 [av .shr h_] mem0 = some (Res.res y, m) := by
  refine start_fn (Try.f52.body.getD .skip) [.cell 2 72] rfl rfl Try.func52 (by kernel_rfl) (by kernel_rfl) (by simp [Try.ntmps52]) rfl ?_
  unfold impl_Heap_own at hp
  obtain ⟨y_1, h_2, hp⟩ := bind_some hp
  have c_3 := C106_eq h_2
  simp at c_3
  obtain ⟨y_4, h_5, hp⟩ := bind_some hp
  have c_6 := C106_eq h_5
  simp at c_6
  cases hp
  simp [Try.f52, Goal, FnEnd, retR, rsrc, RSrc.val, nodupR, nodup, tupPart, c_3, c_6]
theorem pc52 : PC Try.prog 52 C52 := pc_of (g := g52) (ctxOK_of [(106, C106)] rfl ⟨pc106, trivial⟩) ⟨Try.f52, Try.func52, by kernel_rfl, by kernel_rfl⟩ fun x y h => w52 h

noncomputable def C10 : List AV → Option AV := specP (X := Int × Int × Unit) fun x => impl_SmallHeaps x.1 x.2.1
theorem C10_eq {vars cells} {y} (h : impl_SmallHeaps vars cells = some y) : C10 [av .shr vars, av .shr cells] = some (Res.res y) := specP_eq (X := Int × Int × Unit) (F := fun x => impl_SmallHeaps x.1 x.2.1) (x := (vars, cells, ())) h
noncomputable def g10 : Cfg := { P := Try.prog, take := [(10, 48), (10, 56)], keep := [((10, 5), { hd := [0, 5, 22, 23], bx := [11], ex := [5], rt := [4] }), ((10, 8), { hd := [0, 5, 6, 22, 23, 28, 29, 30], bx := [11], ex := [0, 5, 22, 23], rt := [4] }), ((10, 11), { hd := [0, 5, 6, 8, 22, 23, 28, 29, 30, 36, 37, 38], bx := [11], ex := [0, 5, 6, 22, 23, 28, 29, 30], rt := [4] })], gho := [], ctx := [(49, C49), (50, C50), (51, C51), (52, C52)] }
@[simp] theorem g10_P : g10.P = Try.prog := rfl
@[simp] theorem g10_t : g10.take = [(10, 48), (10, 56)] := rfl
@[simp] theorem g10_g : g10.gho = [] := rfl
@[simp] theorem g10_49 : lookN 49 g10.ctx = some C49 := rfl
@[simp] theorem g10_50 : lookN 50 g10.ctx = some C50 := rfl
@[simp] theorem g10_51 : lookN 51 g10.ctx = some C51 := rfl
@[simp] theorem g10_52 : lookN 52 g10.ctx = some C52 := rfl
set_option maxHeartbeats 4000000 in
set_option maxRecDepth 100000 in
theorem w10 {vars cells} {y} (hp : impl_SmallHeaps vars cells = some y) : ∃ m, callo g10 0 10 [av .shr vars, av .shr cells] mem0 = some (Res.res y, m) := by
  refine start_fn (Try.f10.body.getD .skip) [.tmp 4] rfl rfl Try.func10 (by kernel_rfl) (by kernel_rfl) (by simp [Try.ntmps10]) rfl ?_
  unfold impl_SmallHeaps at hp
  obtain ⟨y_1, h_2, hp⟩ := bind_some hp
  have c_3 := C49_eq h_2
  simp at c_3
  simp [Try.f10, c_3]
  rcases cond_cases hp with ⟨h_4, hp⟩ | ⟨h_4, hp⟩
  · try simp at h_4
    obtain ⟨y_5, h_6, hp⟩ := bind_some hp
    have c_7 := C49_eq h_6
    simp at c_7
    try simp [h_4, c_7]
    rcases cond_cases hp with ⟨h_8, hp⟩ | ⟨h_8, hp⟩
    · try simp at h_8
      try simp [h_4, h_8]
      obtain ⟨r_100, h_101, hp⟩ := bind_some hp
      obtain ⟨I_11, I_11_⟩ : ∃ I : (List THeap) × Int → St → Prop, I = (fun (s_9 : (List THeap) × Int) (σ : St) => σ.env 0 = .one (.s (.int .i64 vars)) ∧ σ.env 5 = .one (.l .own s_9.1.length (encL s_9.1)) ∧ σ.env 22 = .one (.s (.int .i64 (addI cells 1))) ∧ σ.env 23 = .one (.s (.int .i64 s_9.2)) ∧ NoBox [] σ.mem) := ⟨_, rfl⟩
      obtain ⟨X_12, X_12_⟩ : ∃ X : (List THeap) → Out → Prop, X = (fun (r_100 : (List THeap)) (out : Out) => ∃ σ : St, out = .exit 0 σ ∧ σ.env 5 = .one (.l .own r_100.length (encL r_100)) ∧ NoBox [] σ.mem) := ⟨_, rfl⟩
      refine loopP ({ hd := [0, 5, 22, 23], bx := [11], ex := [5], rt := [4] }) I_11 X_12 h_101 (by exact rfl) ?_ ?_ ?_
      · rw [I_11_]
        exact ⟨by simp [restrict_env, h_4, h_8], by simp [restrict_env, h_4, h_8], by simp [restrict_env, h_4, h_8], by simp [restrict_env, h_4, h_8], NoBox.restrict (by intro k hk hb; simp at hk hb; simp [hk, hb, h_4, h_8])⟩
      · intro s_9 σ_13 a_10 hI hp
        rw [I_11_] at hI
        obtain ⟨q_14, q_15, q_16, q_17, hn_18⟩ := hI
        try simp [h_4, h_8, q_14, q_15, q_16, q_17]
        rcases cond_cases hp with ⟨h_19, hp⟩ | ⟨h_19, hp⟩
        · try simp at h_19
          obtain ⟨y_20, h_21, hp⟩ := bind_some hp
          have c_22 := C50_eq h_21
          simp at c_22
          try simp [h_4, h_8, q_14, q_15, q_16, q_17, h_19, c_22]
          obtain ⟨r_92, h_93, hp⟩ := bind_some hp
          obtain ⟨I_25, I_25_⟩ : ∃ I : (List THeap) × Int → St → Prop, I = (fun (s_23 : (List THeap) × Int) (σ : St) => σ.env 0 = .one (.s (.int .i64 vars)) ∧ σ.env 5 = .one (.l .own s_23.1.length (encL s_23.1)) ∧ σ.env 6 = .one (.s (.int .i64 s_9.2)) ∧ σ.env 22 = .one (.s (.int .i64 (addI cells 1))) ∧ σ.env 23 = .one (.s (.int .i64 s_9.2)) ∧ σ.env 28 = .one (.l .own y_20.length (encL y_20)) ∧ σ.env 29 = .one (.s (.int .i64 (y_20.length : Int))) ∧ σ.env 30 = .one (.s (.int .i64 s_23.2)) ∧ NoBox [] σ.mem) := ⟨_, rfl⟩
          obtain ⟨X_26, X_26_⟩ : ∃ X : (List THeap) → Out → Prop, X = (fun (r_92 : (List THeap)) (out : Out) => ∃ σ : St, out = .exit 2 σ ∧ σ.env 0 = .one (.s (.int .i64 vars)) ∧ σ.env 5 = .one (.l .own r_92.length (encL r_92)) ∧ σ.env 22 = .one (.s (.int .i64 (addI cells 1))) ∧ σ.env 23 = .one (.s (.int .i64 s_9.2)) ∧ NoBox [] σ.mem) := ⟨_, rfl⟩
          refine loopP ({ hd := [0, 5, 6, 22, 23, 28, 29, 30], bx := [11], ex := [0, 5, 22, 23], rt := [4] }) I_25 X_26 h_93 (by exact rfl) ?_ ?_ ?_
          · rw [I_25_]
            exact ⟨by simp [restrict_env, h_4, h_8, q_14, q_15, q_16, q_17, h_19], by simp [restrict_env, h_4, h_8, q_14, q_15, q_16, q_17, h_19], by simp [restrict_env, h_4, h_8, q_14, q_15, q_16, q_17, h_19], by simp [restrict_env, h_4, h_8, q_14, q_15, q_16, q_17, h_19], by simp [restrict_env, h_4, h_8, q_14, q_15, q_16, q_17, h_19], by simp [restrict_env, h_4, h_8, q_14, q_15, q_16, q_17, h_19], by simp [restrict_env, h_4, h_8, q_14, q_15, q_16, q_17, h_19], by simp [restrict_env, h_4, h_8, q_14, q_15, q_16, q_17, h_19], NoBox.restrict (by intro k hk hb; simp at hk hb; simp [hk, hb, h_4, h_8, q_14, q_15, q_16, q_17, h_19, hn_18 k (by simp [hk, hb])])⟩
          · intro s_23 σ_27 a_24 hI hp
            rw [I_25_] at hI
            obtain ⟨q_28, q_29, q_30, q_31, q_32, q_33, q_34, q_35, hn_36⟩ := hI
            try simp [h_4, h_8, h_19, q_28, q_29, q_30, q_31, q_32, q_33, q_34, q_35]
            rcases cond_cases hp with ⟨h_37, hp⟩ | ⟨h_37, hp⟩
            · try simp at h_37
              obtain ⟨e_38, h_39, hp⟩ := bind_some hp
              have b_40 := at_lo h_39
              have b_41 := at_hi h_39
              try simp at b_40
              try simp at b_41
              have c_42 := seg_at' h_39 0 1 (by decide) (ds := [.sl e_38.length (encL e_38)]) rfl
              try simp at c_42
              obtain ⟨y_43, h_44, hp⟩ := bind_some hp
              have c_45 := C50_eq h_44
              simp at c_45
              try simp [h_4, h_8, h_19, q_28, q_29, q_30, q_31, q_32, q_33, q_34, q_35, h_37, b_40, b_41, c_42, c_45]
              obtain ⟨r_80, h_81, hp⟩ := bind_some hp
              obtain ⟨I_48, I_48_⟩ : ∃ I : (List THeap) × Int → St → Prop, I = (fun (s_46 : (List THeap) × Int) (σ : St) => σ.env 0 = .one (.s (.int .i64 vars)) ∧ σ.env 5 = .one (.l .own s_46.1.length (encL s_46.1)) ∧ σ.env 6 = .one (.s (.int .i64 s_9.2)) ∧ σ.env 8 = .one (.l .bor e_38.length (encL e_38)) ∧ σ.env 22 = .one (.s (.int .i64 (addI cells 1))) ∧ σ.env 23 = .one (.s (.int .i64 s_9.2)) ∧ σ.env 28 = .one (.l .own y_20.length (encL y_20)) ∧ σ.env 29 = .one (.s (.int .i64 (y_20.length : Int))) ∧ σ.env 30 = .one (.s (.int .i64 s_23.2)) ∧ σ.env 36 = .one (.l .own y_43.length (encL y_43)) ∧ σ.env 37 = .one (.s (.int .i64 (y_43.length : Int))) ∧ σ.env 38 = .one (.s (.int .i64 s_46.2)) ∧ NoBox [] σ.mem) := ⟨_, rfl⟩
              obtain ⟨X_49, X_49_⟩ : ∃ X : (List THeap) → Out → Prop, X = (fun (r_80 : (List THeap)) (out : Out) => ∃ σ : St, out = .exit 4 σ ∧ σ.env 0 = .one (.s (.int .i64 vars)) ∧ σ.env 5 = .one (.l .own r_80.length (encL r_80)) ∧ σ.env 6 = .one (.s (.int .i64 s_9.2)) ∧ σ.env 22 = .one (.s (.int .i64 (addI cells 1))) ∧ σ.env 23 = .one (.s (.int .i64 s_9.2)) ∧ σ.env 28 = .one (.l .own y_20.length (encL y_20)) ∧ σ.env 29 = .one (.s (.int .i64 (y_20.length : Int))) ∧ σ.env 30 = .one (.s (.int .i64 s_23.2)) ∧ NoBox [] σ.mem) := ⟨_, rfl⟩
              refine loopP ({ hd := [0, 5, 6, 8, 22, 23, 28, 29, 30, 36, 37, 38], bx := [11], ex := [0, 5, 6, 22, 23, 28, 29, 30], rt := [4] }) I_48 X_49 h_81 (by exact rfl) ?_ ?_ ?_
              · rw [I_48_]
                exact ⟨by simp [restrict_env, h_4, h_8, h_19, q_28, q_29, q_30, q_31, q_32, q_33, q_34, q_35, h_37], by simp [restrict_env, h_4, h_8, h_19, q_28, q_29, q_30, q_31, q_32, q_33, q_34, q_35, h_37], by simp [restrict_env, h_4, h_8, h_19, q_28, q_29, q_30, q_31, q_32, q_33, q_34, q_35, h_37], by simp [restrict_env, h_4, h_8, h_19, q_28, q_29, q_30, q_31, q_32, q_33, q_34, q_35, h_37], by simp [restrict_env, h_4, h_8, h_19, q_28, q_29, q_30, q_31, q_32, q_33, q_34, q_35, h_37], by simp [restrict_env, h_4, h_8, h_19, q_28, q_29, q_30, q_31, q_32, q_33, q_34, q_35, h_37], by simp [restrict_env, h_4, h_8, h_19, q_28, q_29, q_30, q_31, q_32, q_33, q_34, q_35, h_37], by simp [restrict_env, h_4, h_8, h_19, q_28, q_29, q_30, q_31, q_32, q_33, q_34, q_35, h_37], by simp [restrict_env, h_4, h_8, h_19, q_28, q_29, q_30, q_31, q_32, q_33, q_34, q_35, h_37], by simp [restrict_env, h_4, h_8, h_19, q_28, q_29, q_30, q_31, q_32, q_33, q_34, q_35, h_37], by simp [restrict_env, h_4, h_8, h_19, q_28, q_29, q_30, q_31, q_32, q_33, q_34, q_35, h_37], by simp [restrict_env, h_4, h_8, h_19, q_28, q_29, q_30, q_31, q_32, q_33, q_34, q_35, h_37], NoBox.restrict (by intro k hk hb; simp at hk hb; simp [hk, hb, h_4, h_8, h_19, q_28, q_29, q_30, q_31, q_32, q_33, q_34, q_35, h_37, hn_36 k (by simp [hk, hb])])⟩
              · intro s_46 σ_50 a_47 hI hp
                rw [I_48_] at hI
                obtain ⟨q_51, q_52, q_53, q_54, q_55, q_56, q_57, q_58, q_59, q_60, q_61, q_62, hn_63⟩ := hI
                try simp [h_4, h_8, h_19, h_37, q_51, q_52, q_53, q_54, q_55, q_56, q_57, q_58, q_59, q_60, q_61, q_62]
                rcases cond_cases hp with ⟨h_64, hp⟩ | ⟨h_64, hp⟩
                · try simp at h_64
                  obtain ⟨e_65, h_66, hp⟩ := bind_some hp
                  have b_67 := at_lo h_66
                  have b_68 := at_hi h_66
                  try simp at b_67
                  try simp at b_68
                  have c_69 := seg_at' h_66 0 1 (by decide) (ds := [.sl e_65.length (encL e_65)]) rfl
                  try simp at c_69
                  have n_70 := hn_63 (1, 11) (by simp)
                  obtain ⟨y_71, h_72, hp⟩ := bind_some hp
                  have c_73 := C51_eq h_72
                  simp at c_73
                  try simp [h_4, h_8, h_19, h_37, q_51, q_52, q_53, q_54, q_55, q_56, q_57, q_58, q_59, q_60, q_61, q_62, h_64, b_67, b_68, c_69, n_70, c_73]
                  rcases cond_cases hp with ⟨h_74, hp⟩ | ⟨h_74, hp⟩
                  · try simp at h_74
                    obtain ⟨y_75, h_76, hp⟩ := bind_some hp
                    have c_77 := C52_eq h_76
                    simp at c_77
                    obtain ⟨_, h_78, hp⟩ := bind_some hp
                    have b_79 := room_ok h_78
                    try simp at b_79
                    cases hp
                    try simp [h_4, h_8, h_19, h_37, q_51, q_52, q_53, q_54, q_55, q_56, q_57, q_58, q_59, q_60, q_61, q_62, h_64, h_74, c_77, b_79]
                    refine goal_next ?_
                    rw [I_48_]
                    exact ⟨by simp [restrict_env, h_4, h_8, h_19, h_37, q_51, q_52, q_53, q_54, q_55, q_56, q_57, q_58, q_59, q_60, q_61, q_62, h_64, h_74, c_77, b_79], by simp [restrict_env, h_4, h_8, h_19, h_37, q_51, q_52, q_53, q_54, q_55, q_56, q_57, q_58, q_59, q_60, q_61, q_62, h_64, h_74, c_77, b_79], by simp [restrict_env, h_4, h_8, h_19, h_37, q_51, q_52, q_53, q_54, q_55, q_56, q_57, q_58, q_59, q_60, q_61, q_62, h_64, h_74, c_77, b_79], by simp [restrict_env, h_4, h_8, h_19, h_37, q_51, q_52, q_53, q_54, q_55, q_56, q_57, q_58, q_59, q_60, q_61, q_62, h_64, h_74, c_77, b_79], by simp [restrict_env, h_4, h_8, h_19, h_37, q_51, q_52, q_53, q_54, q_55, q_56, q_57, q_58, q_59, q_60, q_61, q_62, h_64, h_74, c_77, b_79], by simp [restrict_env, h_4, h_8, h_19, h_37, q_51, q_52, q_53, q_54, q_55, q_56, q_57, q_58, q_59, q_60, q_61, q_62, h_64, h_74, c_77, b_79], by simp [restrict_env, h_4, h_8, h_19, h_37, q_51, q_52, q_53, q_54, q_55, q_56, q_57, q_58, q_59, q_60, q_61, q_62, h_64, h_74, c_77, b_79], by simp [restrict_env, h_4, h_8, h_19, h_37, q_51, q_52, q_53, q_54, q_55, q_56, q_57, q_58, q_59, q_60, q_61, q_62, h_64, h_74, c_77, b_79], by simp [restrict_env, h_4, h_8, h_19, h_37, q_51, q_52, q_53, q_54, q_55, q_56, q_57, q_58, q_59, q_60, q_61, q_62, h_64, h_74, c_77, b_79], by simp [restrict_env, h_4, h_8, h_19, h_37, q_51, q_52, q_53, q_54, q_55, q_56, q_57, q_58, q_59, q_60, q_61, q_62, h_64, h_74, c_77, b_79], by simp [restrict_env, h_4, h_8, h_19, h_37, q_51, q_52, q_53, q_54, q_55, q_56, q_57, q_58, q_59, q_60, q_61, q_62, h_64, h_74, c_77, b_79], by simp [restrict_env, h_4, h_8, h_19, h_37, q_51, q_52, q_53, q_54, q_55, q_56, q_57, q_58, q_59, q_60, q_61, q_62, h_64, h_74, c_77, b_79], NoBox.restrict (by intro k hk hb; simp at hk hb; simp [hk, hb, h_4, h_8, h_19, h_37, q_51, q_52, q_53, q_54, q_55, q_56, q_57, q_58, q_59, q_60, q_61, q_62, h_64, h_74, c_77, b_79, hn_63 k (by simp [hk, hb])])⟩
                  · try simp at h_74
                    cases hp
                    try simp [h_4, h_8, h_19, h_37, q_51, q_52, q_53, q_54, q_55, q_56, q_57, q_58, q_59, q_60, q_61, q_62, h_64, h_74]
                    refine goal_next ?_
                    rw [I_48_]
                    exact ⟨by simp [restrict_env, h_4, h_8, h_19, h_37, q_51, q_52, q_53, q_54, q_55, q_56, q_57, q_58, q_59, q_60, q_61, q_62, h_64, h_74], by simp [restrict_env, h_4, h_8, h_19, h_37, q_51, q_52, q_53, q_54, q_55, q_56, q_57, q_58, q_59, q_60, q_61, q_62, h_64, h_74], by simp [restrict_env, h_4, h_8, h_19, h_37, q_51, q_52, q_53, q_54, q_55, q_56, q_57, q_58, q_59, q_60, q_61, q_62, h_64, h_74], by simp [restrict_env, h_4, h_8, h_19, h_37, q_51, q_52, q_53, q_54, q_55, q_56, q_57, q_58, q_59, q_60, q_61, q_62, h_64, h_74], by simp [restrict_env, h_4, h_8, h_19, h_37, q_51, q_52, q_53, q_54, q_55, q_56, q_57, q_58, q_59, q_60, q_61, q_62, h_64, h_74], by simp [restrict_env, h_4, h_8, h_19, h_37, q_51, q_52, q_53, q_54, q_55, q_56, q_57, q_58, q_59, q_60, q_61, q_62, h_64, h_74], by simp [restrict_env, h_4, h_8, h_19, h_37, q_51, q_52, q_53, q_54, q_55, q_56, q_57, q_58, q_59, q_60, q_61, q_62, h_64, h_74], by simp [restrict_env, h_4, h_8, h_19, h_37, q_51, q_52, q_53, q_54, q_55, q_56, q_57, q_58, q_59, q_60, q_61, q_62, h_64, h_74], by simp [restrict_env, h_4, h_8, h_19, h_37, q_51, q_52, q_53, q_54, q_55, q_56, q_57, q_58, q_59, q_60, q_61, q_62, h_64, h_74], by simp [restrict_env, h_4, h_8, h_19, h_37, q_51, q_52, q_53, q_54, q_55, q_56, q_57, q_58, q_59, q_60, q_61, q_62, h_64, h_74], by simp [restrict_env, h_4, h_8, h_19, h_37, q_51, q_52, q_53, q_54, q_55, q_56, q_57, q_58, q_59, q_60, q_61, q_62, h_64, h_74], by simp [restrict_env, h_4, h_8, h_19, h_37, q_51, q_52, q_53, q_54, q_55, q_56, q_57, q_58, q_59, q_60, q_61, q_62, h_64, h_74], NoBox.restrict (by intro k hk hb; simp at hk hb; simp [hk, hb, h_4, h_8, h_19, h_37, q_51, q_52, q_53, q_54, q_55, q_56, q_57, q_58, q_59, q_60, q_61, q_62, h_64, h_74, hn_63 k (by simp [hk, hb])])⟩
                · try simp at h_64
                  cases hp
                  try simp [h_4, h_8, h_19, h_37, q_51, q_52, q_53, q_54, q_55, q_56, q_57, q_58, q_59, q_60, q_61, q_62, h_64]
                  refine goal_outX ?_
                  rw [X_49_]
                  exact ⟨_, rfl, by simp [restrict_env, h_4, h_8, h_19, h_37, q_51, q_52, q_53, q_54, q_55, q_56, q_57, q_58, q_59, q_60, q_61, q_62, h_64], by simp [restrict_env, h_4, h_8, h_19, h_37, q_51, q_52, q_53, q_54, q_55, q_56, q_57, q_58, q_59, q_60, q_61, q_62, h_64], by simp [restrict_env, h_4, h_8, h_19, h_37, q_51, q_52, q_53, q_54, q_55, q_56, q_57, q_58, q_59, q_60, q_61, q_62, h_64], by simp [restrict_env, h_4, h_8, h_19, h_37, q_51, q_52, q_53, q_54, q_55, q_56, q_57, q_58, q_59, q_60, q_61, q_62, h_64], by simp [restrict_env, h_4, h_8, h_19, h_37, q_51, q_52, q_53, q_54, q_55, q_56, q_57, q_58, q_59, q_60, q_61, q_62, h_64], by simp [restrict_env, h_4, h_8, h_19, h_37, q_51, q_52, q_53, q_54, q_55, q_56, q_57, q_58, q_59, q_60, q_61, q_62, h_64], by simp [restrict_env, h_4, h_8, h_19, h_37, q_51, q_52, q_53, q_54, q_55, q_56, q_57, q_58, q_59, q_60, q_61, q_62, h_64], by simp [restrict_env, h_4, h_8, h_19, h_37, q_51, q_52, q_53, q_54, q_55, q_56, q_57, q_58, q_59, q_60, q_61, q_62, h_64], NoBox.restrict (by intro k hk hb; simp at hk hb; simp [hk, hb, h_4, h_8, h_19, h_37, q_51, q_52, q_53, q_54, q_55, q_56, q_57, q_58, q_59, q_60, q_61, q_62, h_64, hn_63 k (by simp [hk, hb])])⟩
              · intro out hX
                rw [X_49_] at hX
                obtain ⟨σ_82, rfl, q_83, q_84, q_85, q_86, q_87, q_88, q_89, q_90, hn_91⟩ := hX
                cases hp
                try simp [h_4, h_8, h_19, h_37, q_83, q_84, q_85, q_86, q_87, q_88, q_89, q_90]
                refine goal_next ?_
                rw [I_25_]
                exact ⟨by simp [restrict_env, h_4, h_8, h_19, h_37, q_83, q_84, q_85, q_86, q_87, q_88, q_89, q_90], by simp [restrict_env, h_4, h_8, h_19, h_37, q_83, q_84, q_85, q_86, q_87, q_88, q_89, q_90], by simp [restrict_env, h_4, h_8, h_19, h_37, q_83, q_84, q_85, q_86, q_87, q_88, q_89, q_90], by simp [restrict_env, h_4, h_8, h_19, h_37, q_83, q_84, q_85, q_86, q_87, q_88, q_89, q_90], by simp [restrict_env, h_4, h_8, h_19, h_37, q_83, q_84, q_85, q_86, q_87, q_88, q_89, q_90], by simp [restrict_env, h_4, h_8, h_19, h_37, q_83, q_84, q_85, q_86, q_87, q_88, q_89, q_90], by simp [restrict_env, h_4, h_8, h_19, h_37, q_83, q_84, q_85, q_86, q_87, q_88, q_89, q_90], by simp [restrict_env, h_4, h_8, h_19, h_37, q_83, q_84, q_85, q_86, q_87, q_88, q_89, q_90], NoBox.restrict (by intro k hk hb; simp at hk hb; simp [hk, hb, h_4, h_8, h_19, h_37, q_83, q_84, q_85, q_86, q_87, q_88, q_89, q_90, hn_91 k (by simp [hk, hb])])⟩
            · try simp at h_37
              cases hp
              try simp [h_4, h_8, h_19, q_28, q_29, q_30, q_31, q_32, q_33, q_34, q_35, h_37]
              refine goal_outX ?_
              rw [X_26_]
              exact ⟨_, rfl, by simp [restrict_env, h_4, h_8, h_19, q_28, q_29, q_30, q_31, q_32, q_33, q_34, q_35, h_37], by simp [restrict_env, h_4, h_8, h_19, q_28, q_29, q_30, q_31, q_32, q_33, q_34, q_35, h_37], by simp [restrict_env, h_4, h_8, h_19, q_28, q_29, q_30, q_31, q_32, q_33, q_34, q_35, h_37], by simp [restrict_env, h_4, h_8, h_19, q_28, q_29, q_30, q_31, q_32, q_33, q_34, q_35, h_37], NoBox.restrict (by intro k hk hb; simp at hk hb; simp [hk, hb, h_4, h_8, h_19, q_28, q_29, q_30, q_31, q_32, q_33, q_34, q_35, h_37, hn_36 k (by simp [hk, hb])])⟩
          · intro out hX
            rw [X_26_] at hX
            obtain ⟨σ_94, rfl, q_95, q_96, q_97, q_98, hn_99⟩ := hX
            cases hp
            try simp [h_4, h_8, h_19, q_95, q_96, q_97, q_98]
            refine goal_next ?_
            rw [I_11_]
            exact ⟨by simp [restrict_env, h_4, h_8, h_19, q_95, q_96, q_97, q_98], by simp [restrict_env, h_4, h_8, h_19, q_95, q_96, q_97, q_98], by simp [restrict_env, h_4, h_8, h_19, q_95, q_96, q_97, q_98], by simp [restrict_env, h_4, h_8, h_19, q_95, q_96, q_97, q_98], NoBox.restrict (by intro k hk hb; simp at hk hb; simp [hk, hb, h_4, h_8, h_19, q_95, q_96, q_97, q_98, hn_99 k (by simp [hk, hb])])⟩
        · try simp at h_19
          cases hp
          try simp [h_4, h_8, q_14, q_15, q_16, q_17, h_19]
          refine goal_outX ?_
          rw [X_12_]
          exact ⟨_, rfl, by simp [restrict_env, h_4, h_8, q_14, q_15, q_16, q_17, h_19], NoBox.restrict (by intro k hk hb; simp at hk hb; simp [hk, hb, h_4, h_8, q_14, q_15, q_16, q_17, h_19, hn_18 k (by simp [hk, hb])])⟩
      · intro out hX
        rw [X_12_] at hX
        obtain ⟨σ_102, rfl, q_103, hn_104⟩ := hX
        cases hp
        simp [Goal, FnEnd, h_4, h_8, q_103]
    · try simp at h_8
      cases hp
      simp [Goal, FnEnd, h_4, h_8]
  · try simp at h_4
    cases hp
    simp [Goal, FnEnd, h_4]
theorem pc10 : PC Try.prog 10 C10 := pc_of (g := g10) (ctxOK_of [(49, C49), (50, C50), (51, C51), (52, C52)] rfl ⟨pc49, pc50, pc51, pc52, trivial⟩) ⟨Try.f10, Try.func10, by kernel_rfl, by kernel_rfl⟩ fun x y h => w10 h

noncomputable def C85 : List AV → Option AV := specP (X := (List Int) × (List Int) × Unit) fun x => laws_eqIntS x.1 x.2.1
theorem C85_eq {a_ b_} {y} (h : laws_eqIntS a_ b_ = some y) : C85 [av .shr a_, av .shr b_] = some (Res.res y) := specP_eq (X := (List Int) × (List Int) × Unit) (F := fun x => laws_eqIntS x.1 x.2.1) (x := (a_, b_, ())) h
noncomputable def g85 : Cfg := { P := Try.prog, take := [], keep := [((85, 4), { hd := [0, 1, 5], bx := [], ex := [], rt := [4] })], gho := [], ctx := [] }
@[simp] theorem g85_P : g85.P = Try.prog := rfl
@[simp] theorem g85_t : g85.take = [] := rfl
@[simp] theorem g85_g : g85.gho = [] := rfl
set_option maxHeartbeats 4000000 in
set_option maxRecDepth 100000 in
theorem w85 {a_ b_} {y} (hp : laws_eqIntS a_ b_ = some y) : ∃ m, callo g85 0 85 [av .shr a_, av .shr b_] mem0 = some (Res.res y, m) := by
  refine start_fn (Try.f85.body.getD .skip) [.tmp 4] rfl rfl Try.func85 (by kernel_rfl) (by kernel_rfl) (by simp [Try.ntmps85]) rfl ?_
  unfold laws_eqIntS at hp
  simp [Try.f85]
  rcases cond_cases hp with ⟨h_1, hp⟩ | ⟨h_1, hp⟩
  · try simp at h_1
    cases hp
    simp [Goal, FnEnd, h_1]
  · try simp at h_1
    try simp [h_1]
    obtain ⟨r_23, h_24, hp⟩ := bind_some hp
    obtain ⟨I_4, I_4_⟩ : ∃ I : Int → St → Prop, I = (fun (s_2 : Int) (σ : St) => σ.env 0 = .one (.l .shr a_.length (encL a_)) ∧ σ.env 1 = .one (.l .shr b_.length (encL b_)) ∧ σ.env 5 = .one (.s (.int .i64 s_2)) ∧ σ.mem = mem0) := ⟨_, rfl⟩
    obtain ⟨X_5, X_5_⟩ : ∃ X : ((Unit) ⊕ (Unit)) → Out → Prop, X = (fun (r_23 : (Unit) ⊕ (Unit)) (out : Out) => Sum.elim (fun r_23 => ∃ σ : St, out = .ret σ ∧ σ.env 4 = .one (.s (.bool false)) ∧ σ.mem = mem0) (fun r_23 => ∃ σ : St, out = .exit 0 σ ∧ σ.mem = mem0) r_23) := ⟨_, rfl⟩
    refine loopP ({ hd := [0, 1, 5], bx := [], ex := [], rt := [4] }) I_4 X_5 h_24 (by exact rfl) ?_ ?_ ?_
    · rw [I_4_]
      exact ⟨by simp [restrict_env, h_1], by simp [restrict_env, h_1], by simp [restrict_env, h_1], by simp [restrict_mem, h_1]⟩
    · intro s_2 σ_6 a_3 hI hp
      rw [I_4_] at hI
      obtain ⟨q_7, q_8, q_9, q_10⟩ := hI
      try simp [h_1, q_7, q_8, q_9, q_10]
      rcases cond_cases hp with ⟨h_11, hp⟩ | ⟨h_11, hp⟩
      · try simp at h_11
        obtain ⟨e_12, h_13, hp⟩ := bind_some hp
        have b_14 := at_lo h_13
        have b_15 := at_hi h_13
        try simp at b_14
        try simp at b_15
        have c_16 := seg_at' h_13 0 1 (by decide) (ds := [.sc (.int .i64 e_12)]) rfl
        try simp at c_16
        obtain ⟨e_17, h_18, hp⟩ := bind_some hp
        have b_19 := at_lo h_18
        have b_20 := at_hi h_18
        try simp at b_19
        try simp at b_20
        have c_21 := seg_at' h_18 0 1 (by decide) (ds := [.sc (.int .i64 e_17)]) rfl
        try simp at c_21
        try simp [h_1, q_7, q_8, q_9, q_10, h_11, b_14, b_15, c_16, b_19, b_20, c_21]
        rcases cond_cases hp with ⟨h_22, hp⟩ | ⟨h_22, hp⟩
        · try simp at h_22
          cases hp
          try simp [h_1, q_7, q_8, q_9, q_10, h_11, h_22]
          refine goal_outR ?_
          rw [X_5_]
          exact ⟨_, rfl, by simp [restrict_env, h_1, q_7, q_8, q_9, q_10, h_11, h_22], by simp [restrict_mem, h_1, q_7, q_8, q_9, q_10, h_11, h_22]⟩
        · try simp at h_22
          cases hp
          try simp [h_1, q_7, q_8, q_9, q_10, h_11, h_22]
          refine goal_next ?_
          rw [I_4_]
          exact ⟨by simp [restrict_env, h_1, q_7, q_8, q_9, q_10, h_11, h_22], by simp [restrict_env, h_1, q_7, q_8, q_9, q_10, h_11, h_22], by simp [restrict_env, h_1, q_7, q_8, q_9, q_10, h_11, h_22], by simp [restrict_mem, h_1, q_7, q_8, q_9, q_10, h_11, h_22]⟩
      · try simp at h_11
        cases hp
        try simp [h_1, q_7, q_8, q_9, q_10, h_11]
        refine goal_outX ?_
        rw [X_5_]
        exact ⟨_, rfl, by simp [restrict_mem, h_1, q_7, q_8, q_9, q_10, h_11]⟩
    · intro out hX
      rw [X_5_] at hX
      rcases r_23 with r_23 | r_23
      · simp only [Sum.elim_inl, Sum.elim_inr] at hX hp
        obtain ⟨σ_25, rfl, q_26, q_27⟩ := hX
        cases hp
        simp [Goal, FnEnd, h_1, q_26, q_27]
      · simp only [Sum.elim_inl, Sum.elim_inr] at hX hp
        obtain ⟨σ_28, rfl, q_29⟩ := hX
        cases hp
        simp [Goal, FnEnd, h_1, q_29]
theorem pc85 : PC Try.prog 85 C85 := pc_of (g := g85) (fun f F h => by cases h) ⟨Try.f85, Try.func85, by kernel_rfl, by kernel_rfl⟩ fun x y h => w85 h

noncomputable def C53 : List AV → Option AV := specP (X := THeap × THeap × Unit) fun x => laws_eqHeap x.1 x.2.1
theorem C53_eq {a_ b_} {y} (h : laws_eqHeap a_ b_ = some y) : C53 [av .shr a_, av .shr b_] = some (Res.res y) := specP_eq (X := THeap × THeap × Unit) (F := fun x => laws_eqHeap x.1 x.2.1) (x := (a_, b_, ())) h
noncomputable def g53 : Cfg := { P := Try.prog, take := [], keep := [], gho := [], ctx := [(85, C85)] }
@[simp] theorem g53_P : g53.P = Try.prog := rfl
@[simp] theorem g53_t : g53.take = [] := rfl
@[simp] theorem g53_g : g53.gho = [] := rfl
@[simp] theorem g53_85 : lookN 85 g53.ctx = some C85 := rfl
set_option maxHeartbeats 4000000 in
set_option maxRecDepth 100000 in
theorem w53 {a_ b_} {y} (hp : laws_eqHeap a_ b_ = some y) : ∃ m, callo g53 0 53 [av .shr a_, av .shr b_] mem0 = some (Res.res y, m) := by
  refine start_fn (Try.f53.body.getD .skip) [.tmp 4] rfl rfl Try.func53 (by kernel_rfl) (by kernel_rfl) (by simp [Try.ntmps53]) rfl ?_
  unfold laws_eqHeap at hp
  obtain ⟨y_1, h_2, hp⟩ := bind_some hp
  have c_3 := C85_eq h_2
  simp at c_3
  simp [Try.f53, c_3]
  rcases cond_cases hp with ⟨h_4, hp⟩ | ⟨h_4, hp⟩
  · try simp at h_4
    obtain ⟨y_5, h_6, hp⟩ := bind_some hp
    have c_7 := C85_eq h_6
    simp at c_7
    try simp [h_4, c_7]
    rcases cond_cases hp with ⟨h_8, hp⟩ | ⟨h_8, hp⟩
    · try simp at h_8
      cases hp
      simp [Goal, FnEnd, h_4, h_8]
    · try simp at h_8
      cases hp
      simp [Goal, FnEnd, h_4, h_8]
  · try simp at h_4
    cases hp
    simp [Goal, FnEnd, h_4]
theorem pc53 : PC Try.prog 53 C53 := pc_of (g := g53) (ctxOK_of [(85, C85)] rfl ⟨pc85, trivial⟩) ⟨Try.f53, Try.func53, by kernel_rfl, by kernel_rfl⟩ fun x y h => w53 h

noncomputable def C11 : List AV → Option AV := specP (X := (List THeap) × (List THeap) × Unit) fun x => laws_eqHeapS x.1 x.2.1
theorem C11_eq {a_ b_} {y} (h : laws_eqHeapS a_ b_ = some y) : C11 [av .shr a_, av .shr b_] = some (Res.res y) := specP_eq (X := (List THeap) × (List THeap) × Unit) (F := fun x => laws_eqHeapS x.1 x.2.1) (x := (a_, b_, ())) h
noncomputable def g11 : Cfg := { P := Try.prog, take := [], keep := [((11, 4), { hd := [0, 1, 5], bx := [], ex := [], rt := [4] })], gho := [], ctx := [(53, C53)] }
@[simp] theorem g11_P : g11.P = Try.prog := rfl
@[simp] theorem g11_t : g11.take = [] := rfl
@[simp] theorem g11_g : g11.gho = [] := rfl
@[simp] theorem g11_53 : lookN 53 g11.ctx = some C53 := rfl
set_option maxHeartbeats 4000000 in
set_option maxRecDepth 100000 in
theorem w11 {a_ b_} {y} (hp : laws_eqHeapS a_ b_ = some y) : ∃ m, callo g11 0 11 [av .shr a_, av .shr b_] mem0 = some (Res.res y, m) := by
  refine start_fn (Try.f11.body.getD .skip) [.tmp 4] rfl rfl Try.func11 (by kernel_rfl) (by kernel_rfl) (by simp [Try.ntmps11]) rfl ?_
  unfold laws_eqHeapS at hp
  simp [Try.f11]
  rcases cond_cases hp with ⟨h_1, hp⟩ | ⟨h_1, hp⟩
  · try simp at h_1
    cases hp
    simp [Goal, FnEnd, h_1]
  · try simp at h_1
    try simp [h_1]
    obtain ⟨r_26, h_27, hp⟩ := bind_some hp
    obtain ⟨I_4, I_4_⟩ : ∃ I : Int → St → Prop, I = (fun (s_2 : Int) (σ : St) => σ.env 0 = .one (.l .shr a_.length (encL a_)) ∧ σ.env 1 = .one (.l .shr b_.length (encL b_)) ∧ σ.env 5 = .one (.s (.int .i64 s_2)) ∧ σ.mem = mem0) := ⟨_, rfl⟩
    obtain ⟨X_5, X_5_⟩ : ∃ X : ((Unit) ⊕ (Unit)) → Out → Prop, X = (fun (r_26 : (Unit) ⊕ (Unit)) (out : Out) => Sum.elim (fun r_26 => ∃ σ : St, out = .ret σ ∧ σ.env 4 = .one (.s (.bool false)) ∧ σ.mem = mem0) (fun r_26 => ∃ σ : St, out = .exit 0 σ ∧ σ.mem = mem0) r_26) := ⟨_, rfl⟩
    refine loopP ({ hd := [0, 1, 5], bx := [], ex := [], rt := [4] }) I_4 X_5 h_27 (by exact rfl) ?_ ?_ ?_
    · rw [I_4_]
      exact ⟨by simp [restrict_env, h_1], by simp [restrict_env, h_1], by simp [restrict_env, h_1], by simp [restrict_mem, h_1]⟩
    · intro s_2 σ_6 a_3 hI hp
      rw [I_4_] at hI
      obtain ⟨q_7, q_8, q_9, q_10⟩ := hI
      try simp [h_1, q_7, q_8, q_9, q_10]
      rcases cond_cases hp with ⟨h_11, hp⟩ | ⟨h_11, hp⟩
      · try simp at h_11
        obtain ⟨e_12, h_13, hp⟩ := bind_some hp
        have b_14 := at_lo h_13
        have b_15 := at_hi h_13
        try simp at b_14
        try simp at b_15
        have c_16 := seg_at' h_13 0 2 (by decide) (ds := [.sl e_12.vars.length (encL e_12.vars), .sl e_12.next.length (encL e_12.next)]) rfl
        try simp at c_16
        obtain ⟨e_17, h_18, hp⟩ := bind_some hp
        have b_19 := at_lo h_18
        have b_20 := at_hi h_18
        try simp at b_19
        try simp at b_20
        have c_21 := seg_at' h_18 0 2 (by decide) (ds := [.sl e_17.vars.length (encL e_17.vars), .sl e_17.next.length (encL e_17.next)]) rfl
        try simp at c_21
        obtain ⟨y_22, h_23, hp⟩ := bind_some hp
        have c_24 := C53_eq h_23
        simp at c_24
        try simp [h_1, q_7, q_8, q_9, q_10, h_11, b_14, b_15, c_16, b_19, b_20, c_21, c_24]
        rcases cond_cases hp with ⟨h_25, hp⟩ | ⟨h_25, hp⟩
        · try simp at h_25
          cases hp
          try simp [h_1, q_7, q_8, q_9, q_10, h_11, h_25]
          refine goal_next ?_
          rw [I_4_]
          exact ⟨by simp [restrict_env, h_1, q_7, q_8, q_9, q_10, h_11, h_25], by simp [restrict_env, h_1, q_7, q_8, q_9, q_10, h_11, h_25], by simp [restrict_env, h_1, q_7, q_8, q_9, q_10, h_11, h_25], by simp [restrict_mem, h_1, q_7, q_8, q_9, q_10, h_11, h_25]⟩
        · try simp at h_25
          cases hp
          try simp [h_1, q_7, q_8, q_9, q_10, h_11, h_25]
          refine goal_outR ?_
          rw [X_5_]
          exact ⟨_, rfl, by simp [restrict_env, h_1, q_7, q_8, q_9, q_10, h_11, h_25], by simp [restrict_mem, h_1, q_7, q_8, q_9, q_10, h_11, h_25]⟩
      · try simp at h_11
        cases hp
        try simp [h_1, q_7, q_8, q_9, q_10, h_11]
        refine goal_outX ?_
        rw [X_5_]
        exact ⟨_, rfl, by simp [restrict_mem, h_1, q_7, q_8, q_9, q_10, h_11]⟩
    · intro out hX
      rw [X_5_] at hX
      rcases r_26 with r_26 | r_26
      · simp only [Sum.elim_inl, Sum.elim_inr] at hX hp
        obtain ⟨σ_28, rfl, q_29, q_30⟩ := hX
        cases hp
        simp [Goal, FnEnd, h_1, q_29, q_30]
      · simp only [Sum.elim_inl, Sum.elim_inr] at hX hp
        obtain ⟨σ_31, rfl, q_32⟩ := hX
        cases hp
        simp [Goal, FnEnd, h_1, q_32]
theorem pc11 : PC Try.prog 11 C11 := pc_of (g := g11) (ctxOK_of [(53, C53)] rfl ⟨pc53, trivial⟩) ⟨Try.f11, Try.func11, by kernel_rfl, by kernel_rfl⟩ fun x y h => w11 h

noncomputable def C55 : List AV → Option AV := specP (X := (List Int) × Int × Unit) fun x => laws_heldIntS x.1 x.2.1
theorem C55_eq {a_ k_} {y} (h : laws_heldIntS a_ k_ = some y) : C55 [av .shr a_, av .shr k_] = some (Res.res y) := specP_eq (X := (List Int) × Int × Unit) (F := fun x => laws_heldIntS x.1 x.2.1) (x := (a_, k_, ())) h
noncomputable def g55 : Cfg := { P := Try.prog, take := [], keep := [((55, 2), { hd := [0, 1, 5], bx := [], ex := [1], rt := [4] })], gho := [], ctx := [] }
@[simp] theorem g55_P : g55.P = Try.prog := rfl
@[simp] theorem g55_t : g55.take = [] := rfl
@[simp] theorem g55_g : g55.gho = [] := rfl
set_option maxHeartbeats 4000000 in
set_option maxRecDepth 100000 in
theorem w55 {a_ k_} {y} (hp : laws_heldIntS a_ k_ = some y) : ∃ m, callo g55 0 55 [av .shr a_, av .shr k_] mem0 = some (Res.res y, m) := by
  refine start_fn (Try.f55.body.getD .skip) [.tmp 4] rfl rfl Try.func55 (by kernel_rfl) (by kernel_rfl) (by simp [Try.ntmps55]) rfl ?_
  unfold laws_heldIntS at hp
  simp [Try.f55]
  obtain ⟨r_17, h_18, hp⟩ := bind_some hp
  obtain ⟨I_3, I_3_⟩ : ∃ I : Int × Int → St → Prop, I = (fun (s_1 : Int × Int) (σ : St) => σ.env 0 = .one (.l .shr a_.length (encL a_)) ∧ σ.env 1 = .one (.s (.int .i64 s_1.1)) ∧ σ.env 5 = .one (.s (.int .i64 s_1.2)) ∧ σ.mem = mem0) := ⟨_, rfl⟩
  obtain ⟨X_4, X_4_⟩ : ∃ X : ((Int) ⊕ (Int)) → Out → Prop, X = (fun (r_17 : (Int) ⊕ (Int)) (out : Out) => Sum.elim (fun r_17 => ∃ σ : St, out = .ret σ ∧ σ.env 4 = .one (.s (.int .i64 r_17)) ∧ σ.mem = mem0) (fun r_17 => ∃ σ : St, out = .exit 0 σ ∧ σ.env 1 = .one (.s (.int .i64 r_17)) ∧ σ.mem = mem0) r_17) := ⟨_, rfl⟩
  refine loopP ({ hd := [0, 1, 5], bx := [], ex := [1], rt := [4] }) I_3 X_4 h_18 (by exact rfl) ?_ ?_ ?_
  · rw [I_3_]
    exact ⟨by simp [restrict_env], by simp [restrict_env], by simp [restrict_env], by simp [restrict_mem]⟩
  · intro s_1 σ_5 a_2 hI hp
    rw [I_3_] at hI
    obtain ⟨q_6, q_7, q_8, q_9⟩ := hI
    try simp [q_6, q_7, q_8, q_9]
    rcases cond_cases hp with ⟨h_10, hp⟩ | ⟨h_10, hp⟩
    · try simp at h_10
      obtain ⟨e_11, h_12, hp⟩ := bind_some hp
      have b_13 := at_lo h_12
      have b_14 := at_hi h_12
      try simp at b_13
      try simp at b_14
      have c_15 := seg_at' h_12 0 1 (by decide) (ds := [.sc (.int .i64 e_11)]) rfl
      try simp at c_15
      try simp [q_6, q_7, q_8, q_9, h_10, b_13, b_14, c_15]
      rcases cond_cases hp with ⟨h_16, hp⟩ | ⟨h_16, hp⟩
      · try simp at h_16
        cases hp
        try simp [q_6, q_7, q_8, q_9, h_10, h_16]
        refine goal_outR ?_
        rw [X_4_]
        exact ⟨_, rfl, by simp [restrict_env, q_6, q_7, q_8, q_9, h_10, h_16], by simp [restrict_mem, q_6, q_7, q_8, q_9, h_10, h_16]⟩
      · try simp at h_16
        cases hp
        try simp [q_6, q_7, q_8, q_9, h_10, h_16]
        refine goal_next ?_
        rw [I_3_]
        exact ⟨by simp [restrict_env, q_6, q_7, q_8, q_9, h_10, h_16], by simp [restrict_env, q_6, q_7, q_8, q_9, h_10, h_16], by simp [restrict_env, q_6, q_7, q_8, q_9, h_10, h_16], by simp [restrict_mem, q_6, q_7, q_8, q_9, h_10, h_16]⟩
    · try simp at h_10
      cases hp
      try simp [q_6, q_7, q_8, q_9, h_10]
      refine goal_outX ?_
      rw [X_4_]
      exact ⟨_, rfl, by simp [restrict_env, q_6, q_7, q_8, q_9, h_10], by simp [restrict_mem, q_6, q_7, q_8, q_9, h_10]⟩
  · intro out hX
    rw [X_4_] at hX
    rcases r_17 with r_17 | r_17
    · simp only [Sum.elim_inl, Sum.elim_inr] at hX hp
      obtain ⟨σ_19, rfl, q_20, q_21⟩ := hX
      cases hp
      simp [Goal, FnEnd, q_20, q_21]
    · simp only [Sum.elim_inl, Sum.elim_inr] at hX hp
      obtain ⟨σ_22, rfl, q_23, q_24⟩ := hX
      cases hp
      simp [Goal, FnEnd, q_23, q_24]
theorem pc55 : PC Try.prog 55 C55 := pc_of (g := g55) (fun f F h => by cases h) ⟨Try.f55, Try.func55, by kernel_rfl, by kernel_rfl⟩ fun x y h => w55 h

noncomputable def C13 : List AV → Option AV := specP (X := (List THeap) × Int × Unit) fun x => laws_heldHeapS x.1 x.2.1
theorem C13_eq {a_ k_} {y} (h : laws_heldHeapS a_ k_ = some y) : C13 [av .shr a_, av .shr k_] = some (Res.res y) := specP_eq (X := (List THeap) × Int × Unit) (F := fun x => laws_heldHeapS x.1 x.2.1) (x := (a_, k_, ())) h
noncomputable def g13 : Cfg := { P := Try.prog, take := [], keep := [((13, 2), { hd := [0, 1, 5], bx := [], ex := [1], rt := [4] })], gho := [], ctx := [(55, C55)] }
@[simp] theorem g13_P : g13.P = Try.prog := rfl
@[simp] theorem g13_t : g13.take = [] := rfl
@[simp] theorem g13_g : g13.gho = [] := rfl
@[simp] theorem g13_55 : lookN 55 g13.ctx = some C55 := rfl
set_option maxHeartbeats 4000000 in
set_option maxRecDepth 100000 in
theorem w13 {a_ k_} {y} (hp : laws_heldHeapS a_ k_ = some y) : ∃ m, callo g13 0 13 [av .shr a_, av .shr k_] mem0 = some (Res.res y, m) := by
  refine start_fn (Try.f13.body.getD .skip) [.tmp 4] rfl rfl Try.func13 (by kernel_rfl) (by kernel_rfl) (by simp [Try.ntmps13]) rfl ?_
  unfold laws_heldHeapS at hp
  simp [Try.f13]
  obtain ⟨r_29, h_30, hp⟩ := bind_some hp
  obtain ⟨I_3, I_3_⟩ : ∃ I : Int × Int → St → Prop, I = (fun (s_1 : Int × Int) (σ : St) => σ.env 0 = .one (.l .shr a_.length (encL a_)) ∧ σ.env 1 = .one (.s (.int .i64 s_1.1)) ∧ σ.env 5 = .one (.s (.int .i64 s_1.2)) ∧ σ.mem = mem0) := ⟨_, rfl⟩
  obtain ⟨X_4, X_4_⟩ : ∃ X : ((Int) ⊕ (Int)) → Out → Prop, X = (fun (r_29 : (Int) ⊕ (Int)) (out : Out) => Sum.elim (fun r_29 => ∃ σ : St, out = .ret σ ∧ σ.env 4 = .one (.s (.int .i64 r_29)) ∧ σ.mem = mem0) (fun r_29 => ∃ σ : St, out = .exit 0 σ ∧ σ.env 1 = .one (.s (.int .i64 r_29)) ∧ σ.mem = mem0) r_29) := ⟨_, rfl⟩
  refine loopP ({ hd := [0, 1, 5], bx := [], ex := [1], rt := [4] }) I_3 X_4 h_30 (by exact rfl) ?_ ?_ ?_
  · rw [I_3_]
    exact ⟨by simp [restrict_env], by simp [restrict_env], by simp [restrict_env], by simp [restrict_mem]⟩
  · intro s_1 σ_5 a_2 hI hp
    rw [I_3_] at hI
    obtain ⟨q_6, q_7, q_8, q_9⟩ := hI
    try simp [q_6, q_7, q_8, q_9]
    rcases cond_cases hp with ⟨h_10, hp⟩ | ⟨h_10, hp⟩
    · try simp at h_10
      obtain ⟨e_11, h_12, hp⟩ := bind_some hp
      have b_13 := at_lo h_12
      have b_14 := at_hi h_12
      try simp at b_13
      try simp at b_14
      have c_15 := seg_at' h_12 0 1 (by decide) (ds := [.sl e_11.vars.length (encL e_11.vars)]) rfl
      try simp at c_15
      obtain ⟨y_16, h_17, hp⟩ := bind_some hp
      have c_18 := C55_eq h_17
      simp at c_18
      try simp [q_6, q_7, q_8, q_9, h_10, b_13, b_14, c_15, c_18]
      rcases cond_cases hp with ⟨h_19, hp⟩ | ⟨h_19, hp⟩
      · try simp at h_19
        cases hp
        try simp [q_6, q_7, q_8, q_9, h_10, h_19]
        refine goal_outR ?_
        rw [X_4_]
        exact ⟨_, rfl, by simp [restrict_env, q_6, q_7, q_8, q_9, h_10, h_19], by simp [restrict_mem, q_6, q_7, q_8, q_9, h_10, h_19]⟩
      · try simp at h_19
        obtain ⟨e_20, h_21, hp⟩ := bind_some hp
        cases Option.some.inj (h_12.symm.trans h_21)
        have b_22 := at_lo h_12
        have b_23 := at_hi h_12
        try simp at b_22
        try simp at b_23
        have c_24 := seg_at' h_12 1 1 (by decide) (ds := [.sl e_11.next.length (encL e_11.next)]) rfl
        try simp at c_24
        obtain ⟨y_25, h_26, hp⟩ := bind_some hp
        have c_27 := C55_eq h_26
        simp at c_27
        try simp [q_6, q_7, q_8, q_9, h_10, h_19, b_22, b_23, c_24, c_27]
        rcases cond_cases hp with ⟨h_28, hp⟩ | ⟨h_28, hp⟩
        · try simp at h_28
          cases hp
          try simp [q_6, q_7, q_8, q_9, h_10, h_19, h_28]
          refine goal_outR ?_
          rw [X_4_]
          exact ⟨_, rfl, by simp [restrict_env, q_6, q_7, q_8, q_9, h_10, h_19, h_28], by simp [restrict_mem, q_6, q_7, q_8, q_9, h_10, h_19, h_28]⟩
        · try simp at h_28
          cases hp
          try simp [q_6, q_7, q_8, q_9, h_10, h_19, h_28]
          refine goal_next ?_
          rw [I_3_]
          exact ⟨by simp [restrict_env, q_6, q_7, q_8, q_9, h_10, h_19, h_28], by simp [restrict_env, q_6, q_7, q_8, q_9, h_10, h_19, h_28], by simp [restrict_env, q_6, q_7, q_8, q_9, h_10, h_19, h_28], by simp [restrict_mem, q_6, q_7, q_8, q_9, h_10, h_19, h_28]⟩
    · try simp at h_10
      cases hp
      try simp [q_6, q_7, q_8, q_9, h_10]
      refine goal_outX ?_
      rw [X_4_]
      exact ⟨_, rfl, by simp [restrict_env, q_6, q_7, q_8, q_9, h_10], by simp [restrict_mem, q_6, q_7, q_8, q_9, h_10]⟩
  · intro out hX
    rw [X_4_] at hX
    rcases r_29 with r_29 | r_29
    · simp only [Sum.elim_inl, Sum.elim_inr] at hX hp
      obtain ⟨σ_31, rfl, q_32, q_33⟩ := hX
      cases hp
      simp [Goal, FnEnd, q_32, q_33]
    · simp only [Sum.elim_inl, Sum.elim_inr] at hX hp
      obtain ⟨σ_34, rfl, q_35, q_36⟩ := hX
      cases hp
      simp [Goal, FnEnd, q_35, q_36]
theorem pc13 : PC Try.prog 13 C13 := pc_of (g := g13) (ctxOK_of [(55, C55)] rfl ⟨pc55, trivial⟩) ⟨Try.f13, Try.func13, by kernel_rfl, by kernel_rfl⟩ fun x y h => w13 h

noncomputable def C3 : List AV → Option AV := specP (X := Int × Int × Unit) fun x => laws_FnExactSmallHeaps x.1 x.2.1
theorem C3_eq {aVars aCells} {y} (h : laws_FnExactSmallHeaps aVars aCells = some y) : C3 [av .shr aVars, av .shr aCells] = some (Res.res y) := specP_eq (X := Int × Int × Unit) (F := fun x => laws_FnExactSmallHeaps x.1 x.2.1) (x := (aVars, aCells, ())) h
noncomputable def g3 : Cfg := { P := Try.prog, take := [], keep := [((12, 2), rowKp), ((54, 2), rowKp)], gho := [((3, 6), [.many (thawSlot 1 6)]), ((3, 2000006), [.many (frzSlot 1 6)])], ctx := [(9, C9), (10, C10), (11, C11), (13, C13)] }
@[simp] theorem g3_P : g3.P = Try.prog := rfl
@[simp] theorem g3_t : g3.take = [] := rfl
@[simp] theorem g3_g : g3.gho = [((3, 6), [.many (thawSlot 1 6)]), ((3, 2000006), [.many (frzSlot 1 6)])] := rfl
@[simp] theorem g3_9 : lookN 9 g3.ctx = some C9 := rfl
@[simp] theorem g3_10 : lookN 10 g3.ctx = some C10 := rfl
@[simp] theorem g3_11 : lookN 11 g3.ctx = some C11 := rfl
@[simp] theorem g3_13 : lookN 13 g3.ctx = some C13 := rfl
@[simp] theorem g3_12 : lookN 12 g3.ctx = none := rfl
@[simp] theorem g3_54 : lookN 54 g3.ctx = none := rfl
set_option maxHeartbeats 4000000 in
set_option maxRecDepth 100000 in
theorem w3 {aVars aCells} {y} (hp : laws_FnExactSmallHeaps aVars aCells = some y) : ∃ m, callo g3 0 3 [av .shr aVars, av .shr aCells] mem0 = some (Res.res y, m) := by
  have G_12 : G12 g3 := ⟨rfl, by kernel_rfl, rfl, fun t => by simp, fun i => by simp [lookK], by simp [g3, lookK], by simp⟩
  have G_54 : G54 g3 := ⟨rfl, by kernel_rfl, rfl, fun t => by simp, fun i => by simp [lookK], by simp [g3, lookK], by simp⟩
  refine start_fn (Try.f3.body.getD .skip) [.tmp 4] rfl rfl Try.func3 (by kernel_rfl) (by kernel_rfl) (by simp [Try.ntmps3]) rfl ?_
  unfold laws_FnExactSmallHeaps at hp
  obtain ⟨y_1, h_2, hp⟩ := bind_some hp
  have c_3 := C9_eq h_2
  simp at c_3
  obtain ⟨y_4, h_5, hp⟩ := bind_some hp
  have c_6 := C10_eq h_5
  simp at c_6
  obtain ⟨y_7, h_8, hp⟩ := bind_some hp
  have c_9 := C11_eq h_8
  simp at c_9
  simp [Try.f3, c_3, c_6, c_9]
  rcases cond_cases hp with ⟨h_10, hp⟩ | ⟨h_10, hp⟩
  · try simp at h_10
    obtain ⟨r_11, h_12, hp⟩ := bind_some hp
    obtain ⟨lg_13, e_14⟩ := markO_eq h_12
    have mk_15 := mk12 G_12 G_54 y_4 1 lg_13
    rw [e_14] at mk_15
    try simp [h_10]
    refine goal_mark 6 7 20 21 22 12 mk_15 (by simp [h_10]) (fun _ => rfl) (by simp [h_10]) (WfE.wfE _) (WfE.wfE _) (fun key hkey => by simp [mem0, h_10]) (by simp) (by simp) rfl (by decide) fun σ_16 qq_17 hq_18 hx_19 hk_20 he_21 hd_22 hm_23 => ?_
    have q_24 : σ_16.env 0 = .one (.s (.int .i64 aVars)) := (he_21 0 (by decide) (by decide) (by decide) (by decide) (by decide)).trans (by simp [h_10])
    have q_25 : σ_16.env 1 = .one (.s (.int .i64 aCells)) := (he_21 1 (by decide) (by decide) (by decide) (by decide) (by decide)).trans (by simp [h_10])
    have q_26 : σ_16.env 4 = .one (.s (.bool false)) := (he_21 4 (by decide) (by decide) (by decide) (by decide) (by decide)).trans (by simp [h_10])
    have q_27 : σ_16.env 5 = .one (.l .own y_1.length (encL y_1)) := (he_21 5 (by decide) (by decide) (by decide) (by decide) (by decide)).trans (by simp [h_10])
    have q_28 : σ_16.env 6 = .one (.l .own r_11.1.length (encL r_11.1)) := hx_19.trans (by simp)
    have q_29 : σ_16.env 7 = .one (.s (.int .i64 r_11.2)) := hk_20
    have q_30 : σ_16.env 10 = .one (.s (.int .i64 aVars)) := (he_21 10 (by decide) (by decide) (by decide) (by decide) (by decide)).trans (by simp [h_10])
    have q_31 : σ_16.env 11 = .one (.s (.int .i64 aCells)) := (he_21 11 (by decide) (by decide) (by decide) (by decide) (by decide)).trans (by simp [h_10])
    have q_32 : σ_16.env 13 = .one (.s (.int .i64 aVars)) := (he_21 13 (by decide) (by decide) (by decide) (by decide) (by decide)).trans (by simp [h_10])
    have q_33 : σ_16.env 14 = .one (.s (.int .i64 aCells)) := (he_21 14 (by decide) (by decide) (by decide) (by decide) (by decide)).trans (by simp [h_10])
    have q_34 : σ_16.env 18 = .one (.s (.bool y_7)) := (he_21 18 (by decide) (by decide) (by decide) (by decide) (by decide)).trans (by simp [h_10])
    have q_35 : σ_16.env 19 = .one (.s (.bool (notB y_7))) := (he_21 19 (by decide) (by decide) (by decide) (by decide) (by decide)).trans (by simp [h_10])
    have hn_36 : NoBox [] σ_16.mem := by
      intro key hk
      by_cases hl : 1 < key.1 ∨ bigK ≤ key.2
      · exact hd_22 key hl
      · rw [hm_23 key (by omega) (by omega)]
        simp at hk
        simp [mem0, hk, h_10]
    obtain ⟨y_37, h_38, hp⟩ := bind_some hp
    have c_39 := C13_eq h_38
    simp at c_39
    try simp [h_10, q_24, q_25, q_26, q_27, q_28, q_29, q_30, q_31, q_32, q_33, q_34, q_35, c_39]
    rcases cond_cases hp with ⟨h_40, hp⟩ | ⟨h_40, hp⟩
    · try simp at h_40
      cases hp
      simp [Goal, FnEnd, h_10, q_24, q_25, q_26, q_27, q_28, q_29, q_30, q_31, q_32, q_33, q_34, q_35, h_40]
    · try simp at h_40
      try simp [h_10, q_24, q_25, q_26, q_27, q_28, q_29, q_30, q_31, q_32, q_33, q_34, q_35, h_40]
      rcases cond_cases hp with ⟨h_41, hp⟩ | ⟨h_41, hp⟩
      · try simp at h_41
        cases hp
        simp [Goal, FnEnd, h_10, q_24, q_25, q_26, q_27, q_28, q_29, q_30, q_31, q_32, q_33, q_34, q_35, h_40, h_41]
      · try simp at h_41
        obtain ⟨y_42, h_43, hp⟩ := bind_some hp
        have c_44 := C10_eq h_43
        simp at c_44
        obtain ⟨y_45, h_46, hp⟩ := bind_some hp
        have c_47 := C11_eq h_46
        simp at c_47
        try simp [h_10, q_24, q_25, q_26, q_27, q_28, q_29, q_30, q_31, q_32, q_33, q_34, q_35, h_40, h_41, c_44, c_47]
        rcases cond_cases hp with ⟨h_48, hp⟩ | ⟨h_48, hp⟩
        · try simp at h_48
          obtain ⟨y_49, h_50, hp⟩ := bind_some hp
          cases Option.some.inj (h_38.symm.trans h_50)
          cases hp
          simp [Goal, FnEnd, h_10, q_24, q_25, q_26, q_27, q_28, q_29, q_30, q_31, q_32, q_33, q_34, q_35, h_40, h_41, h_48, c_39]
        · try simp at h_48
          cases hp
          simp [Goal, FnEnd, h_10, q_24, q_25, q_26, q_27, q_28, q_29, q_30, q_31, q_32, q_33, q_34, q_35, h_40, h_41, h_48]
  · try simp at h_10
    cases hp
    simp [Goal, FnEnd, h_10]
theorem pc3 : PC Try.prog 3 C3 := pc_of (g := g3) (ctxOK_of [(9, C9), (10, C10), (11, C11), (13, C13)] rfl ⟨pc9, pc10, pc11, pc13, trivial⟩) ⟨Try.f3, Try.func3, by kernel_rfl, by kernel_rfl⟩ fun x y h => w3 h
end Go.Proofs
