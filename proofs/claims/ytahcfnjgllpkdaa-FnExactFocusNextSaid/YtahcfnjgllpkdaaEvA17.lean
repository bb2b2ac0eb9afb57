import Derived.Test.YtahcfnjgllpkdaaEvA16
set_option linter.unusedSimpArgs false
set_option linter.unusedVariables false
set_option linter.unnecessarySimpa false
namespace Go.Proofs
open Go.Ev
noncomputable def C22 : List AV → Option AV := specP (X := TStructure × Int × Unit) fun x => impl_FocusNext x.1 x.2.1
theorem C22_eq {s k_} {y} (h : impl_FocusNext s k_ = some y) : C22 [av .shr s, av .shr k_] = some (Res.res y) := specP_eq (X := TStructure × Int × Unit) (F := fun x => impl_FocusNext x.1 x.2.1) (x := (s, k_, ())) h
noncomputable def g22 : Cfg := { P := Try.prog, take := [(22, 12), (22, 57), (22, 78), (22, 90)], keep := [((22, 5), { hd := [2, 5, 6, 30, 31, 32], bx := [], ex := [2, 5, 6], rt := [4] }), ((22, 12), { hd := [2, 5, 9, 51, 52, 53], bx := [], ex := [9], rt := [4] })], gho := [], ctx := [(77, C77), (78, C78), (79, C79), (80, C80), (81, C81), (82, C82), (83, C83)] }
@[simp] theorem g22_P : g22.P = Try.prog := rfl
@[simp] theorem g22_t : g22.take = [(22, 12), (22, 57), (22, 78), (22, 90)] := rfl
@[simp] theorem g22_g : g22.gho = [] := rfl
@[simp] theorem g22_r : g22.ro = [] := rfl
@[simp] theorem g22_w : g22.away = [] := by rw [g22]
@[simp] theorem g22_77 : lookN 77 g22.ctx = some C77 := rfl
@[simp] theorem g22_78 : lookN 78 g22.ctx = some C78 := rfl
@[simp] theorem g22_79 : lookN 79 g22.ctx = some C79 := rfl
@[simp] theorem g22_80 : lookN 80 g22.ctx = some C80 := rfl
@[simp] theorem g22_81 : lookN 81 g22.ctx = some C81 := rfl
@[simp] theorem g22_82 : lookN 82 g22.ctx = some C82 := rfl
@[simp] theorem g22_83 : lookN 83 g22.ctx = some C83 := rfl
set_option maxHeartbeats 4000000 in
set_option maxRecDepth 100000 in
theorem w22 {s k_} {y} (hp : impl_FocusNext s k_ = some y) : ∃ m, callo g22 0 22 [av .shr s, av .shr k_] mem0 = some (Res.res y, m) := by
  refine start_fn (Try.f22.body.getD .skip) [.tmp 4] rfl rfl Try.func22 (by kernel_rfl) (by kernel_rfl) (by simp [Try.ntmps22]) rfl ?_
  unfold impl_FocusNext at hp
  obtain ⟨y_1, h_2, hp⟩ := bind_some hp
  have c_3 := C77_eq h_2
  simp at c_3
  obtain ⟨y_4, h_5, hp⟩ := bind_some hp
  have c_6 := C79_eq h_5
  simp at c_6
  obtain ⟨y_7, h_8, hp⟩ := bind_some hp
  have c_9 := C78_eq h_8
  simp at c_9
  simp [Try.f22, c_3, c_6, c_9]
  rcases cond_cases hp with ⟨h_10, hp⟩ | ⟨h_10, hp⟩
  · try simp at h_10
    try simp [h_10]
    rcases cond_cases hp with ⟨h_11, hp⟩ | ⟨h_11, hp⟩
    · try simp at h_11
      obtain ⟨y_12, h_13, hp⟩ := bind_some hp
      have c_14 := C80_eq h_13
      simp at c_14
      cases hp
      simp [Goal, FnEnd, h_10, h_11, c_14]
    · try simp at h_11
      try simp [h_10, h_11]
      obtain ⟨r_41, h_42, hp⟩ := bind_some hp
      obtain ⟨I_17, I_17_⟩ : ∃ I : Int → St → Prop, I = (fun (s_15 : Int) (σ : St) => σ.env 2 = .one (.ptr (1, 2) 0) ∧ σ.env 5 = .one (.s (.int .i64 y_1.1)) ∧ σ.env 6 = .one (.l .own y_1.2.length (encL y_1.2)) ∧ σ.env 30 = .one (.l .bor y_1.2.length (encL y_1.2)) ∧ σ.env 31 = .one (.s (.int .i64 (y_1.2.length : Int))) ∧ σ.env 32 = .one (.s (.int .i64 s_15)) ∧ σ.mem (1, 2) = some [(.l .shr s.nodes.length (encL s.nodes)), (.l .shr s.next.length (encL s.next))] ∧ NoBox [(1, 2)] σ.mem) := ⟨_, rfl⟩
      obtain ⟨X_18, X_18_⟩ : ∃ X : (((List TStructure)) ⊕ (Unit)) → Out → Prop, X = (fun (r_41 : ((List TStructure)) ⊕ (Unit)) (out : Out) => Sum.elim (fun r_41 => ∃ σ : St, out = .ret σ ∧ σ.env 4 = .one (.l .own r_41.length (encL r_41)) ∧ σ.mem (1, 2) = some [(.l .shr s.nodes.length (encL s.nodes)), (.l .shr s.next.length (encL s.next))] ∧ NoBox [(1, 2)] σ.mem) (fun r_41 => ∃ σ : St, out = .exit 0 σ ∧ σ.env 2 = .one (.ptr (1, 2) 0) ∧ σ.env 5 = .one (.s (.int .i64 y_1.1)) ∧ σ.env 6 = .one (.l .own y_1.2.length (encL y_1.2)) ∧ σ.mem (1, 2) = some [(.l .shr s.nodes.length (encL s.nodes)), (.l .shr s.next.length (encL s.next))] ∧ NoBox [(1, 2)] σ.mem) r_41) := ⟨_, rfl⟩
      refine loopP ({ hd := [2, 5, 6, 30, 31, 32], bx := [], ex := [2, 5, 6], rt := [4] }) I_17 X_18 h_42 (by exact rfl) ?_ ?_ ?_
      · rw [I_17_]
        exact ⟨by simp [restrict_env, h_10, h_11], by simp [restrict_env, h_10, h_11], by simp [restrict_env, h_10, h_11], by simp [restrict_env, h_10, h_11], by simp [restrict_env, h_10, h_11], by simp [restrict_env, h_10, h_11], by simp [restrict_mem, h_10, h_11], NoBox.restrict (by intro k hk hb; simp at hk hb; simp [hk, hb, h_10, h_11])⟩
      · intro s_15 σ_19 a_16 hI hp
        rw [I_17_] at hI
        obtain ⟨q_20, q_21, q_22, q_23, q_24, q_25, q_26, hn_27⟩ := hI
        try simp [h_10, h_11, q_20, q_21, q_22, q_23, q_24, q_25, q_26]
        rcases cond_cases hp with ⟨h_28, hp⟩ | ⟨h_28, hp⟩
        · try simp at h_28
          obtain ⟨e_29, h_30, hp⟩ := bind_some hp
          have b_31 := at_lo h_30
          have b_32 := at_hi h_30
          try simp at b_31
          try simp at b_32
          have c_33 := seg_at' h_30 0 1 (by decide) (ds := [.sc (.int .i64 e_29)]) rfl
          try simp at c_33
          obtain ⟨y_34, h_35, hp⟩ := bind_some hp
          have c_36 := C81_eq h_35
          simp at c_36
          try simp [h_10, h_11, q_20, q_21, q_22, q_23, q_24, q_25, q_26, h_28, b_31, b_32, c_33, c_36]
          rcases cond_cases hp with ⟨h_37, hp⟩ | ⟨h_37, hp⟩
          · try simp at h_37
            obtain ⟨y_38, h_39, hp⟩ := bind_some hp
            have c_40 := C82_eq h_39
            simp at c_40
            cases hp
            try simp [h_10, h_11, q_20, q_21, q_22, q_23, q_24, q_25, q_26, h_28, h_37, c_40]
            refine goal_outR ?_
            rw [X_18_]
            exact ⟨_, rfl, by simp [restrict_env, h_10, h_11, q_20, q_21, q_22, q_23, q_24, q_25, q_26, h_28, h_37, c_40], by simp [restrict_mem, h_10, h_11, q_20, q_21, q_22, q_23, q_24, q_25, q_26, h_28, h_37, c_40], NoBox.restrict (by intro k hk hb; simp at hk hb; simp [hk, hb, h_10, h_11, q_20, q_21, q_22, q_23, q_24, q_25, q_26, h_28, h_37, c_40, hn_27 k (by simp [hk, hb])])⟩
          · try simp at h_37
            cases hp
            try simp [h_10, h_11, q_20, q_21, q_22, q_23, q_24, q_25, q_26, h_28, h_37]
            refine goal_next ?_
            rw [I_17_]
            exact ⟨by simp [restrict_env, h_10, h_11, q_20, q_21, q_22, q_23, q_24, q_25, q_26, h_28, h_37], by simp [restrict_env, h_10, h_11, q_20, q_21, q_22, q_23, q_24, q_25, q_26, h_28, h_37], by simp [restrict_env, h_10, h_11, q_20, q_21, q_22, q_23, q_24, q_25, q_26, h_28, h_37], by simp [restrict_env, h_10, h_11, q_20, q_21, q_22, q_23, q_24, q_25, q_26, h_28, h_37], by simp [restrict_env, h_10, h_11, q_20, q_21, q_22, q_23, q_24, q_25, q_26, h_28, h_37], by simp [restrict_env, h_10, h_11, q_20, q_21, q_22, q_23, q_24, q_25, q_26, h_28, h_37], by simp [restrict_mem, h_10, h_11, q_20, q_21, q_22, q_23, q_24, q_25, q_26, h_28, h_37], NoBox.restrict (by intro k hk hb; simp at hk hb; simp [hk, hb, h_10, h_11, q_20, q_21, q_22, q_23, q_24, q_25, q_26, h_28, h_37, hn_27 k (by simp [hk, hb])])⟩
        · try simp at h_28
          cases hp
          try simp [h_10, h_11, q_20, q_21, q_22, q_23, q_24, q_25, q_26, h_28]
          refine goal_outX ?_
          rw [X_18_]
          exact ⟨_, rfl, by simp [restrict_env, h_10, h_11, q_20, q_21, q_22, q_23, q_24, q_25, q_26, h_28], by simp [restrict_env, h_10, h_11, q_20, q_21, q_22, q_23, q_24, q_25, q_26, h_28], by simp [restrict_env, h_10, h_11, q_20, q_21, q_22, q_23, q_24, q_25, q_26, h_28], by simp [restrict_mem, h_10, h_11, q_20, q_21, q_22, q_23, q_24, q_25, q_26, h_28], NoBox.restrict (by intro k hk hb; simp at hk hb; simp [hk, hb, h_10, h_11, q_20, q_21, q_22, q_23, q_24, q_25, q_26, h_28, hn_27 k (by simp [hk, hb])])⟩
      · intro out hX
        rw [X_18_] at hX
        rcases r_41 with r_41 | r_41
        · simp only [Sum.elim_inl, Sum.elim_inr] at hX hp
          obtain ⟨σ_43, rfl, q_44, q_45, hn_46⟩ := hX
          cases hp
          simp [Goal, FnEnd, h_10, h_11, q_44, q_45]
        · simp only [Sum.elim_inl, Sum.elim_inr] at hX hp
          obtain ⟨σ_47, rfl, q_48, q_49, q_50, q_51, hn_52⟩ := hX
          obtain ⟨y_53, h_54, hp⟩ := bind_some hp
          have c_55 := C82_eq h_54
          simp at c_55
          try simp [h_10, h_11, q_48, q_49, q_50, q_51, c_55]
          obtain ⟨r_98, h_99, hp⟩ := bind_some hp
          obtain ⟨I_58, I_58_⟩ : ∃ I : (List TStructure) × Int → St → Prop, I = (fun (s_56 : (List TStructure) × Int) (σ : St) => σ.env 2 = .one (.ptr (1, 2) 0) ∧ σ.env 5 = .one (.s (.int .i64 y_1.1)) ∧ σ.env 9 = .one (.l .own s_56.1.length (encL s_56.1)) ∧ σ.env 51 = .one (.l .bor y_1.2.length (encL y_1.2)) ∧ σ.env 52 = .one (.s (.int .i64 (y_1.2.length : Int))) ∧ σ.env 53 = .one (.s (.int .i64 s_56.2)) ∧ σ.mem (1, 2) = some [(.l .shr s.nodes.length (encL s.nodes)), (.l .shr s.next.length (encL s.next))] ∧ NoBox [(1, 2)] σ.mem) := ⟨_, rfl⟩
          obtain ⟨X_59, X_59_⟩ : ∃ X : (((List TStructure)) ⊕ ((List TStructure))) → Out → Prop, X = (fun (r_98 : ((List TStructure)) ⊕ ((List TStructure))) (out : Out) => Sum.elim (fun r_98 => ∃ σ : St, out = .ret σ ∧ σ.env 4 = .one (.l .own r_98.length (encL r_98)) ∧ σ.mem (1, 2) = some [(.l .shr s.nodes.length (encL s.nodes)), (.l .shr s.next.length (encL s.next))] ∧ NoBox [(1, 2)] σ.mem) (fun r_98 => ∃ σ : St, out = .exit 2 σ ∧ σ.env 9 = .one (.l .own r_98.length (encL r_98)) ∧ σ.mem (1, 2) = some [(.l .shr s.nodes.length (encL s.nodes)), (.l .shr s.next.length (encL s.next))] ∧ NoBox [(1, 2)] σ.mem) r_98) := ⟨_, rfl⟩
          refine loopP ({ hd := [2, 5, 9, 51, 52, 53], bx := [], ex := [9], rt := [4] }) I_58 X_59 h_99 (by exact rfl) ?_ ?_ ?_
          · rw [I_58_]
            exact ⟨by simp [restrict_env, h_10, h_11, q_48, q_49, q_50, q_51], by simp [restrict_env, h_10, h_11, q_48, q_49, q_50, q_51], by simp [restrict_env, h_10, h_11, q_48, q_49, q_50, q_51], by simp [restrict_env, h_10, h_11, q_48, q_49, q_50, q_51], by simp [restrict_env, h_10, h_11, q_48, q_49, q_50, q_51], by simp [restrict_env, h_10, h_11, q_48, q_49, q_50, q_51], by simp [restrict_mem, h_10, h_11, q_48, q_49, q_50, q_51], NoBox.restrict (by intro k hk hb; simp at hk hb; simp [hk, hb, h_10, h_11, q_48, q_49, q_50, q_51, hn_52 k (by simp [hk, hb])])⟩
          · intro s_56 σ_60 a_57 hI hp
            rw [I_58_] at hI
            obtain ⟨q_61, q_62, q_63, q_64, q_65, q_66, q_67, hn_68⟩ := hI
            try simp [h_10, h_11, q_61, q_62, q_63, q_64, q_65, q_66, q_67]
            rcases cond_cases hp with ⟨h_69, hp⟩ | ⟨h_69, hp⟩
            · try simp at h_69
              obtain ⟨e_70, h_71, hp⟩ := bind_some hp
              have b_72 := at_lo h_71
              have b_73 := at_hi h_71
              try simp at b_72
              try simp at b_73
              have c_74 := seg_at' h_71 0 1 (by decide) (ds := [.sc (.int .i64 e_70)]) rfl
              try simp at c_74
              obtain ⟨y_75, h_76, hp⟩ := bind_some hp
              have c_77 := C82_eq h_76
              simp at c_77
              obtain ⟨_, h_78, hp⟩ := bind_some hp
              have b_79 := room_ok h_78
              try simp at b_79
              obtain ⟨e_80, h_81, hp⟩ := bind_some hp
              have b_82 := at_lo h_81
              have b_83 := at_hi h_81
              try simp at b_82
              try simp at b_83
              have c_84 := seg_at' h_81 3 1 (by decide) (ds := [.sc (.int .i64 e_80.many)]) rfl
              try simp at c_84
              try simp [h_10, h_11, q_61, q_62, q_63, q_64, q_65, q_66, q_67, h_69, b_72, b_73, c_74, c_77, b_79, b_82, b_83, c_84]
              rcases cond_cases hp with ⟨h_85, hp⟩ | ⟨h_85, hp⟩
              · try simp at h_85
                cases hp
                try simp [h_10, h_11, q_61, q_62, q_63, q_64, q_65, q_66, q_67, h_69, h_85]
                refine goal_next ?_
                rw [I_58_]
                exact ⟨by simp [restrict_env, h_10, h_11, q_61, q_62, q_63, q_64, q_65, q_66, q_67, h_69, h_85], by simp [restrict_env, h_10, h_11, q_61, q_62, q_63, q_64, q_65, q_66, q_67, h_69, h_85], by simp [restrict_env, h_10, h_11, q_61, q_62, q_63, q_64, q_65, q_66, q_67, h_69, h_85], by simp [restrict_env, h_10, h_11, q_61, q_62, q_63, q_64, q_65, q_66, q_67, h_69, h_85], by simp [restrict_env, h_10, h_11, q_61, q_62, q_63, q_64, q_65, q_66, q_67, h_69, h_85], by simp [restrict_env, h_10, h_11, q_61, q_62, q_63, q_64, q_65, q_66, q_67, h_69, h_85], by simp [restrict_mem, h_10, h_11, q_61, q_62, q_63, q_64, q_65, q_66, q_67, h_69, h_85], NoBox.restrict (by intro k hk hb; simp at hk hb; simp [hk, hb, h_10, h_11, q_61, q_62, q_63, q_64, q_65, q_66, q_67, h_69, h_85, hn_68 k (by simp [hk, hb])])⟩
              · try simp at h_85
                try simp [h_10, h_11, q_61, q_62, q_63, q_64, q_65, q_66, q_67, h_69, h_85]
                rcases cond_cases hp with ⟨h_86, hp⟩ | ⟨h_86, hp⟩
                · try simp at h_86
                  obtain ⟨y_87, h_88, hp⟩ := bind_some hp
                  have c_89 := C80_eq h_88
                  simp at c_89
                  cases hp
                  try simp [h_10, h_11, q_61, q_62, q_63, q_64, q_65, q_66, q_67, h_69, h_85, h_86, c_89]
                  refine goal_outR ?_
                  rw [X_59_]
                  exact ⟨_, rfl, by simp [restrict_env, h_10, h_11, q_61, q_62, q_63, q_64, q_65, q_66, q_67, h_69, h_85, h_86, c_89], by simp [restrict_mem, h_10, h_11, q_61, q_62, q_63, q_64, q_65, q_66, q_67, h_69, h_85, h_86, c_89], NoBox.restrict (by intro k hk hb; simp at hk hb; simp [hk, hb, h_10, h_11, q_61, q_62, q_63, q_64, q_65, q_66, q_67, h_69, h_85, h_86, c_89, hn_68 k (by simp [hk, hb])])⟩
                · try simp at h_86
                  obtain ⟨y_90, h_91, hp⟩ := bind_some hp
                  have c_92 := C83_eq h_91
                  simp at c_92
                  obtain ⟨y_93, h_94, hp⟩ := bind_some hp
                  have c_95 := C82_eq h_94
                  simp at c_95
                  obtain ⟨_, h_96, hp⟩ := bind_some hp
                  have b_97 := room_ok h_96
                  try simp at b_97
                  cases hp
                  try simp [h_10, h_11, q_61, q_62, q_63, q_64, q_65, q_66, q_67, h_69, h_85, h_86, c_92, c_95, b_97]
                  refine goal_next ?_
                  rw [I_58_]
                  exact ⟨by simp [restrict_env, h_10, h_11, q_61, q_62, q_63, q_64, q_65, q_66, q_67, h_69, h_85, h_86, c_92, c_95, b_97], by simp [restrict_env, h_10, h_11, q_61, q_62, q_63, q_64, q_65, q_66, q_67, h_69, h_85, h_86, c_92, c_95, b_97], by simp [restrict_env, h_10, h_11, q_61, q_62, q_63, q_64, q_65, q_66, q_67, h_69, h_85, h_86, c_92, c_95, b_97], by simp [restrict_env, h_10, h_11, q_61, q_62, q_63, q_64, q_65, q_66, q_67, h_69, h_85, h_86, c_92, c_95, b_97], by simp [restrict_env, h_10, h_11, q_61, q_62, q_63, q_64, q_65, q_66, q_67, h_69, h_85, h_86, c_92, c_95, b_97], by simp [restrict_env, h_10, h_11, q_61, q_62, q_63, q_64, q_65, q_66, q_67, h_69, h_85, h_86, c_92, c_95, b_97], by simp [restrict_mem, h_10, h_11, q_61, q_62, q_63, q_64, q_65, q_66, q_67, h_69, h_85, h_86, c_92, c_95, b_97], NoBox.restrict (by intro k hk hb; simp at hk hb; simp [hk, hb, h_10, h_11, q_61, q_62, q_63, q_64, q_65, q_66, q_67, h_69, h_85, h_86, c_92, c_95, b_97, hn_68 k (by simp [hk, hb])])⟩
            · try simp at h_69
              cases hp
              try simp [h_10, h_11, q_61, q_62, q_63, q_64, q_65, q_66, q_67, h_69]
              refine goal_outX ?_
              rw [X_59_]
              exact ⟨_, rfl, by simp [restrict_env, h_10, h_11, q_61, q_62, q_63, q_64, q_65, q_66, q_67, h_69], by simp [restrict_mem, h_10, h_11, q_61, q_62, q_63, q_64, q_65, q_66, q_67, h_69], NoBox.restrict (by intro k hk hb; simp at hk hb; simp [hk, hb, h_10, h_11, q_61, q_62, q_63, q_64, q_65, q_66, q_67, h_69, hn_68 k (by simp [hk, hb])])⟩
          · intro out hX
            rw [X_59_] at hX
            rcases r_98 with r_98 | r_98
            · simp only [Sum.elim_inl, Sum.elim_inr] at hX hp
              obtain ⟨σ_100, rfl, q_101, q_102, hn_103⟩ := hX
              cases hp
              simp [Goal, FnEnd, h_10, h_11, q_101, q_102]
            · simp only [Sum.elim_inl, Sum.elim_inr] at hX hp
              obtain ⟨σ_104, rfl, q_105, q_106, hn_107⟩ := hX
              cases hp
              simp [Goal, FnEnd, h_10, h_11, q_105, q_106]
  · try simp at h_10
    obtain ⟨y_108, h_109, hp⟩ := bind_some hp
    have c_110 := C80_eq h_109
    simp at c_110
    cases hp
    simp [Goal, FnEnd, h_10, c_110]
theorem pc22 : PC Try.prog 22 C22 := pc_of (g := g22) (ctxOK_of [(77, C77), (78, C78), (79, C79), (80, C80), (81, C81), (82, C82), (83, C83)] rfl ⟨pc77, pc78, pc79, pc80, pc81, pc82, pc83, trivial⟩) ⟨Try.f22, Try.func22, by kernel_rfl, by kernel_rfl⟩ fun x y h => w22 h

noncomputable def C85 : List AV → Option AV := specP (X := (List Int) × (List Int) × Unit) fun x => laws_eqIntS x.1 x.2.1
theorem C85_eq {a_ b_} {y} (h : laws_eqIntS a_ b_ = some y) : C85 [av .shr a_, av .shr b_] = some (Res.res y) := specP_eq (X := (List Int) × (List Int) × Unit) (F := fun x => laws_eqIntS x.1 x.2.1) (x := (a_, b_, ())) h
noncomputable def g85 : Cfg := { P := Try.prog, take := [], keep := [((85, 4), { hd := [0, 1, 5], bx := [], ex := [], rt := [4] })], gho := [], ctx := [] }
@[simp] theorem g85_P : g85.P = Try.prog := rfl
@[simp] theorem g85_t : g85.take = [] := rfl
@[simp] theorem g85_g : g85.gho = [] := rfl
@[simp] theorem g85_r : g85.ro = [] := rfl
@[simp] theorem g85_w : g85.away = [] := by rw [g85]
set_option maxHeartbeats 4000000 in
set_option maxRecDepth 100000 in
theorem w85 {a_ b_} {y} (hp : laws_eqIntS a_ b_ = some y) : ∃ m, callo g85 0 85 [av .shr a_, av .shr b_] mem0 = some (Res.res y, m) := by
  refine start_fn (Try.f85.body.getD .skip) [.tmp 4] rfl rfl Try.func85 (by kernel_rfl) (by kernel_rfl) (by simp [Try.ntmps85]) rfl ?_
  unfold laws_eqIntS at hp
  simp [Try.f85]
  rcases cond_cases hp with ⟨h_1, hp⟩ | ⟨h_1, hp⟩
  · try simp at h_1
    cases hp
    simp [Goal, FnEnd, h_1]
  · try simp at h_1
    try simp [h_1]
    obtain ⟨r_23, h_24, hp⟩ := bind_some hp
    obtain ⟨I_4, I_4_⟩ : ∃ I : Int → St → Prop, I = (fun (s_2 : Int) (σ : St) => σ.env 0 = .one (.l .shr a_.length (encL a_)) ∧ σ.env 1 = .one (.l .shr b_.length (encL b_)) ∧ σ.env 5 = .one (.s (.int .i64 s_2)) ∧ σ.mem = mem0) := ⟨_, rfl⟩
    obtain ⟨X_5, X_5_⟩ : ∃ X : ((Unit) ⊕ (Unit)) → Out → Prop, X = (fun (r_23 : (Unit) ⊕ (Unit)) (out : Out) => Sum.elim (fun r_23 => ∃ σ : St, out = .ret σ ∧ σ.env 4 = .one (.s (.bool false)) ∧ σ.mem = mem0) (fun r_23 => ∃ σ : St, out = .exit 0 σ ∧ σ.mem = mem0) r_23) := ⟨_, rfl⟩
    refine loopP ({ hd := [0, 1, 5], bx := [], ex := [], rt := [4] }) I_4 X_5 h_24 (by exact rfl) ?_ ?_ ?_
    · rw [I_4_]
      exact ⟨by simp [restrict_env, h_1], by simp [restrict_env, h_1], by simp [restrict_env, h_1], by simp [restrict_mem, h_1]⟩
    · intro s_2 σ_6 a_3 hI hp
      rw [I_4_] at hI
      obtain ⟨q_7, q_8, q_9, q_10⟩ := hI
      try simp [h_1, q_7, q_8, q_9, q_10]
      rcases cond_cases hp with ⟨h_11, hp⟩ | ⟨h_11, hp⟩
      · try simp at h_11
        obtain ⟨e_12, h_13, hp⟩ := bind_some hp
        have b_14 := at_lo h_13
        have b_15 := at_hi h_13
        try simp at b_14
        try simp at b_15
        have c_16 := seg_at' h_13 0 1 (by decide) (ds := [.sc (.int .i64 e_12)]) rfl
        try simp at c_16
        obtain ⟨e_17, h_18, hp⟩ := bind_some hp
        have b_19 := at_lo h_18
        have b_20 := at_hi h_18
        try simp at b_19
        try simp at b_20
        have c_21 := seg_at' h_18 0 1 (by decide) (ds := [.sc (.int .i64 e_17)]) rfl
        try simp at c_21
        try simp [h_1, q_7, q_8, q_9, q_10, h_11, b_14, b_15, c_16, b_19, b_20, c_21]
        rcases cond_cases hp with ⟨h_22, hp⟩ | ⟨h_22, hp⟩
        · try simp at h_22
          cases hp
          try simp [h_1, q_7, q_8, q_9, q_10, h_11, h_22]
          refine goal_outR ?_
          rw [X_5_]
          exact ⟨_, rfl, by simp [restrict_env, h_1, q_7, q_8, q_9, q_10, h_11, h_22], by simp [restrict_mem, h_1, q_7, q_8, q_9, q_10, h_11, h_22]⟩
        · try simp at h_22
          cases hp
          try simp [h_1, q_7, q_8, q_9, q_10, h_11, h_22]
          refine goal_next ?_
          rw [I_4_]
          exact ⟨by simp [restrict_env, h_1, q_7, q_8, q_9, q_10, h_11, h_22], by simp [restrict_env, h_1, q_7, q_8, q_9, q_10, h_11, h_22], by simp [restrict_env, h_1, q_7, q_8, q_9, q_10, h_11, h_22], by simp [restrict_mem, h_1, q_7, q_8, q_9, q_10, h_11, h_22]⟩
      · try simp at h_11
        cases hp
        try simp [h_1, q_7, q_8, q_9, q_10, h_11]
        refine goal_outX ?_
        rw [X_5_]
        exact ⟨_, rfl, by simp [restrict_mem, h_1, q_7, q_8, q_9, q_10, h_11]⟩
    · intro out hX
      rw [X_5_] at hX
      rcases r_23 with r_23 | r_23
      · simp only [Sum.elim_inl, Sum.elim_inr] at hX hp
        obtain ⟨σ_25, rfl, q_26, q_27⟩ := hX
        cases hp
        simp [Goal, FnEnd, h_1, q_26, q_27]
      · simp only [Sum.elim_inl, Sum.elim_inr] at hX hp
        obtain ⟨σ_28, rfl, q_29⟩ := hX
        cases hp
        simp [Goal, FnEnd, h_1, q_29]
theorem pc85 : PC Try.prog 85 C85 := pc_of (g := g85) (fun f F h => by cases h) ⟨Try.f85, Try.func85, by kernel_rfl, by kernel_rfl⟩ fun x y h => w85 h

noncomputable def C137 : List AV → Option AV := specP (X := TNode × TNode × Unit) fun x => laws_eqNode x.1 x.2.1
theorem C137_eq {a_ b_} {y} (h : laws_eqNode a_ b_ = some y) : C137 [av .shr a_, av .shr b_] = some (Res.res y) := specP_eq (X := TNode × TNode × Unit) (F := fun x => laws_eqNode x.1 x.2.1) (x := (a_, b_, ())) h
noncomputable def g137 : Cfg := { P := Try.prog, take := [], keep := [], gho := [], ctx := [(85, C85)] }
@[simp] theorem g137_P : g137.P = Try.prog := rfl
@[simp] theorem g137_t : g137.take = [] := rfl
@[simp] theorem g137_g : g137.gho = [] := rfl
@[simp] theorem g137_r : g137.ro = [] := rfl
@[simp] theorem g137_w : g137.away = [] := by rw [g137]
@[simp] theorem g137_85 : lookN 85 g137.ctx = some C85 := rfl
set_option maxHeartbeats 4000000 in
set_option maxRecDepth 100000 in
theorem w137 {a_ b_} {y} (hp : laws_eqNode a_ b_ = some y) : ∃ m, callo g137 0 137 [av .shr a_, av .shr b_] mem0 = some (Res.res y, m) := by
  refine start_fn (Try.f137.body.getD .skip) [.tmp 4] rfl rfl Try.func137 (by kernel_rfl) (by kernel_rfl) (by simp [Try.ntmps137]) rfl ?_
  unfold laws_eqNode at hp
  obtain ⟨y_1, h_2, hp⟩ := bind_some hp
  have c_3 := C85_eq h_2
  simp at c_3
  simp [Try.f137, c_3]
  rcases cond_cases hp with ⟨h_4, hp⟩ | ⟨h_4, hp⟩
  · try simp at h_4
    obtain ⟨y_5, h_6, hp⟩ := bind_some hp
    have c_7 := C85_eq h_6
    simp at c_7
    try simp [h_4, c_7]
    rcases cond_cases hp with ⟨h_8, hp⟩ | ⟨h_8, hp⟩
    · try simp at h_8
      try simp [h_4, h_8]
      rcases cond_cases hp with ⟨h_9, hp⟩ | ⟨h_9, hp⟩
      · try simp at h_9
        cases hp
        simp [Goal, FnEnd, h_4, h_8, h_9]
      · try simp at h_9
        try simp [h_4, h_8, h_9]
        rcases cond_cases hp with ⟨h_10, hp⟩ | ⟨h_10, hp⟩
        · try simp at h_10
          cases hp
          simp [Goal, FnEnd, h_4, h_8, h_9, h_10]
        · try simp at h_10
          cases hp
          simp [Goal, FnEnd, h_4, h_8, h_9, h_10]
    · try simp at h_8
      cases hp
      simp [Goal, FnEnd, h_4, h_8]
  · try simp at h_4
    cases hp
    simp [Goal, FnEnd, h_4]
theorem pc137 : PC Try.prog 137 C137 := pc_of (g := g137) (ctxOK_of [(85, C85)] rfl ⟨pc85, trivial⟩) ⟨Try.f137, Try.func137, by kernel_rfl, by kernel_rfl⟩ fun x y h => w137 h

noncomputable def C84 : List AV → Option AV := specP (X := (List TNode) × (List TNode) × Unit) fun x => laws_eqNodeS x.1 x.2.1
theorem C84_eq {a_ b_} {y} (h : laws_eqNodeS a_ b_ = some y) : C84 [av .shr a_, av .shr b_] = some (Res.res y) := specP_eq (X := (List TNode) × (List TNode) × Unit) (F := fun x => laws_eqNodeS x.1 x.2.1) (x := (a_, b_, ())) h
noncomputable def g84 : Cfg := { P := Try.prog, take := [], keep := [((84, 4), { hd := [0, 1, 5], bx := [], ex := [], rt := [4] })], gho := [], ctx := [(137, C137)] }
@[simp] theorem g84_P : g84.P = Try.prog := rfl
@[simp] theorem g84_t : g84.take = [] := rfl
@[simp] theorem g84_g : g84.gho = [] := rfl
@[simp] theorem g84_r : g84.ro = [] := rfl
@[simp] theorem g84_w : g84.away = [] := by rw [g84]
@[simp] theorem g84_137 : lookN 137 g84.ctx = some C137 := rfl
set_option maxHeartbeats 4000000 in
set_option maxRecDepth 100000 in
theorem w84 {a_ b_} {y} (hp : laws_eqNodeS a_ b_ = some y) : ∃ m, callo g84 0 84 [av .shr a_, av .shr b_] mem0 = some (Res.res y, m) := by
  refine start_fn (Try.f84.body.getD .skip) [.tmp 4] rfl rfl Try.func84 (by kernel_rfl) (by kernel_rfl) (by simp [Try.ntmps84]) rfl ?_
  unfold laws_eqNodeS at hp
  simp [Try.f84]
  rcases cond_cases hp with ⟨h_1, hp⟩ | ⟨h_1, hp⟩
  · try simp at h_1
    cases hp
    simp [Goal, FnEnd, h_1]
  · try simp at h_1
    try simp [h_1]
    obtain ⟨r_26, h_27, hp⟩ := bind_some hp
    obtain ⟨I_4, I_4_⟩ : ∃ I : Int → St → Prop, I = (fun (s_2 : Int) (σ : St) => σ.env 0 = .one (.l .shr a_.length (encL a_)) ∧ σ.env 1 = .one (.l .shr b_.length (encL b_)) ∧ σ.env 5 = .one (.s (.int .i64 s_2)) ∧ σ.mem = mem0) := ⟨_, rfl⟩
    obtain ⟨X_5, X_5_⟩ : ∃ X : ((Unit) ⊕ (Unit)) → Out → Prop, X = (fun (r_26 : (Unit) ⊕ (Unit)) (out : Out) => Sum.elim (fun r_26 => ∃ σ : St, out = .ret σ ∧ σ.env 4 = .one (.s (.bool false)) ∧ σ.mem = mem0) (fun r_26 => ∃ σ : St, out = .exit 0 σ ∧ σ.mem = mem0) r_26) := ⟨_, rfl⟩
    refine loopP ({ hd := [0, 1, 5], bx := [], ex := [], rt := [4] }) I_4 X_5 h_27 (by exact rfl) ?_ ?_ ?_
    · rw [I_4_]
      exact ⟨by simp [restrict_env, h_1], by simp [restrict_env, h_1], by simp [restrict_env, h_1], by simp [restrict_mem, h_1]⟩
    · intro s_2 σ_6 a_3 hI hp
      rw [I_4_] at hI
      obtain ⟨q_7, q_8, q_9, q_10⟩ := hI
      try simp [h_1, q_7, q_8, q_9, q_10]
      rcases cond_cases hp with ⟨h_11, hp⟩ | ⟨h_11, hp⟩
      · try simp at h_11
        obtain ⟨e_12, h_13, hp⟩ := bind_some hp
        have b_14 := at_lo h_13
        have b_15 := at_hi h_13
        try simp at b_14
        try simp at b_15
        have c_16 := seg_at' h_13 0 4 (by decide) (ds := [.sl e_12.vars.length (encL e_12.vars), .sl e_12.reach.length (encL e_12.reach), .sc (.int .i64 e_12.shared), .sc (.int .i64 e_12.many)]) rfl
        try simp at c_16
        obtain ⟨e_17, h_18, hp⟩ := bind_some hp
        have b_19 := at_lo h_18
        have b_20 := at_hi h_18
        try simp at b_19
        try simp at b_20
        have c_21 := seg_at' h_18 0 4 (by decide) (ds := [.sl e_17.vars.length (encL e_17.vars), .sl e_17.reach.length (encL e_17.reach), .sc (.int .i64 e_17.shared), .sc (.int .i64 e_17.many)]) rfl
        try simp at c_21
        obtain ⟨y_22, h_23, hp⟩ := bind_some hp
        have c_24 := C137_eq h_23
        simp at c_24
        try simp [h_1, q_7, q_8, q_9, q_10, h_11, b_14, b_15, c_16, b_19, b_20, c_21, c_24]
        rcases cond_cases hp with ⟨h_25, hp⟩ | ⟨h_25, hp⟩
        · try simp at h_25
          cases hp
          try simp [h_1, q_7, q_8, q_9, q_10, h_11, h_25]
          refine goal_next ?_
          rw [I_4_]
          exact ⟨by simp [restrict_env, h_1, q_7, q_8, q_9, q_10, h_11, h_25], by simp [restrict_env, h_1, q_7, q_8, q_9, q_10, h_11, h_25], by simp [restrict_env, h_1, q_7, q_8, q_9, q_10, h_11, h_25], by simp [restrict_mem, h_1, q_7, q_8, q_9, q_10, h_11, h_25]⟩
        · try simp at h_25
          cases hp
          try simp [h_1, q_7, q_8, q_9, q_10, h_11, h_25]
          refine goal_outR ?_
          rw [X_5_]
          exact ⟨_, rfl, by simp [restrict_env, h_1, q_7, q_8, q_9, q_10, h_11, h_25], by simp [restrict_mem, h_1, q_7, q_8, q_9, q_10, h_11, h_25]⟩
      · try simp at h_11
        cases hp
        try simp [h_1, q_7, q_8, q_9, q_10, h_11]
        refine goal_outX ?_
        rw [X_5_]
        exact ⟨_, rfl, by simp [restrict_mem, h_1, q_7, q_8, q_9, q_10, h_11]⟩
    · intro out hX
      rw [X_5_] at hX
      rcases r_26 with r_26 | r_26
      · simp only [Sum.elim_inl, Sum.elim_inr] at hX hp
        obtain ⟨σ_28, rfl, q_29, q_30⟩ := hX
        cases hp
        simp [Goal, FnEnd, h_1, q_29, q_30]
      · simp only [Sum.elim_inl, Sum.elim_inr] at hX hp
        obtain ⟨σ_31, rfl, q_32⟩ := hX
        cases hp
        simp [Goal, FnEnd, h_1, q_32]
theorem pc84 : PC Try.prog 84 C84 := pc_of (g := g84) (ctxOK_of [(137, C137)] rfl ⟨pc137, trivial⟩) ⟨Try.f84, Try.func84, by kernel_rfl, by kernel_rfl⟩ fun x y h => w84 h

noncomputable def C24 : List AV → Option AV := specP (X := TStructure × TStructure × Unit) fun x => laws_eqStructure x.1 x.2.1
theorem C24_eq {a_ b_} {y} (h : laws_eqStructure a_ b_ = some y) : C24 [av .shr a_, av .shr b_] = some (Res.res y) := specP_eq (X := TStructure × TStructure × Unit) (F := fun x => laws_eqStructure x.1 x.2.1) (x := (a_, b_, ())) h
noncomputable def g24 : Cfg := { P := Try.prog, take := [], keep := [], gho := [], ctx := [(84, C84), (85, C85)] }
@[simp] theorem g24_P : g24.P = Try.prog := rfl
@[simp] theorem g24_t : g24.take = [] := rfl
@[simp] theorem g24_g : g24.gho = [] := rfl
@[simp] theorem g24_r : g24.ro = [] := rfl
@[simp] theorem g24_w : g24.away = [] := by rw [g24]
@[simp] theorem g24_84 : lookN 84 g24.ctx = some C84 := rfl
@[simp] theorem g24_85 : lookN 85 g24.ctx = some C85 := rfl
set_option maxHeartbeats 4000000 in
set_option maxRecDepth 100000 in
theorem w24 {a_ b_} {y} (hp : laws_eqStructure a_ b_ = some y) : ∃ m, callo g24 0 24 [av .shr a_, av .shr b_] mem0 = some (Res.res y, m) := by
  refine start_fn (Try.f24.body.getD .skip) [.tmp 4] rfl rfl Try.func24 (by kernel_rfl) (by kernel_rfl) (by simp [Try.ntmps24]) rfl ?_
  unfold laws_eqStructure at hp
  obtain ⟨y_1, h_2, hp⟩ := bind_some hp
  have c_3 := C84_eq h_2
  simp at c_3
  simp [Try.f24, c_3]
  rcases cond_cases hp with ⟨h_4, hp⟩ | ⟨h_4, hp⟩
  · try simp at h_4
    obtain ⟨y_5, h_6, hp⟩ := bind_some hp
    have c_7 := C85_eq h_6
    simp at c_7
    try simp [h_4, c_7]
    rcases cond_cases hp with ⟨h_8, hp⟩ | ⟨h_8, hp⟩
    · try simp at h_8
      cases hp
      simp [Goal, FnEnd, h_4, h_8]
    · try simp at h_8
      cases hp
      simp [Goal, FnEnd, h_4, h_8]
  · try simp at h_4
    cases hp
    simp [Goal, FnEnd, h_4]
theorem pc24 : PC Try.prog 24 C24 := pc_of (g := g24) (ctxOK_of [(84, C84), (85, C85)] rfl ⟨pc84, pc85, trivial⟩) ⟨Try.f24, Try.func24, by kernel_rfl, by kernel_rfl⟩ fun x y h => w24 h

noncomputable def C23 : List AV → Option AV := specP (X := (List TStructure) × (List TStructure) × Unit) fun x => laws_eqStructureS x.1 x.2.1
theorem C23_eq {a_ b_} {y} (h : laws_eqStructureS a_ b_ = some y) : C23 [av .shr a_, av .shr b_] = some (Res.res y) := specP_eq (X := (List TStructure) × (List TStructure) × Unit) (F := fun x => laws_eqStructureS x.1 x.2.1) (x := (a_, b_, ())) h
noncomputable def g23 : Cfg := { P := Try.prog, take := [], keep := [((23, 4), { hd := [0, 1, 5], bx := [], ex := [], rt := [4] })], gho := [], ctx := [(24, C24)] }
@[simp] theorem g23_P : g23.P = Try.prog := rfl
@[simp] theorem g23_t : g23.take = [] := rfl
@[simp] theorem g23_g : g23.gho = [] := rfl
@[simp] theorem g23_r : g23.ro = [] := rfl
@[simp] theorem g23_w : g23.away = [] := by rw [g23]
@[simp] theorem g23_24 : lookN 24 g23.ctx = some C24 := rfl
set_option maxHeartbeats 4000000 in
set_option maxRecDepth 100000 in
theorem w23 {a_ b_} {y} (hp : laws_eqStructureS a_ b_ = some y) : ∃ m, callo g23 0 23 [av .shr a_, av .shr b_] mem0 = some (Res.res y, m) := by
  refine start_fn (Try.f23.body.getD .skip) [.tmp 4] rfl rfl Try.func23 (by kernel_rfl) (by kernel_rfl) (by simp [Try.ntmps23]) rfl ?_
  unfold laws_eqStructureS at hp
  simp [Try.f23]
  rcases cond_cases hp with ⟨h_1, hp⟩ | ⟨h_1, hp⟩
  · try simp at h_1
    cases hp
    simp [Goal, FnEnd, h_1]
  · try simp at h_1
    try simp [h_1]
    obtain ⟨r_26, h_27, hp⟩ := bind_some hp
    obtain ⟨I_4, I_4_⟩ : ∃ I : Int → St → Prop, I = (fun (s_2 : Int) (σ : St) => σ.env 0 = .one (.l .shr a_.length (encL a_)) ∧ σ.env 1 = .one (.l .shr b_.length (encL b_)) ∧ σ.env 5 = .one (.s (.int .i64 s_2)) ∧ σ.mem = mem0) := ⟨_, rfl⟩
    obtain ⟨X_5, X_5_⟩ : ∃ X : ((Unit) ⊕ (Unit)) → Out → Prop, X = (fun (r_26 : (Unit) ⊕ (Unit)) (out : Out) => Sum.elim (fun r_26 => ∃ σ : St, out = .ret σ ∧ σ.env 4 = .one (.s (.bool false)) ∧ σ.mem = mem0) (fun r_26 => ∃ σ : St, out = .exit 0 σ ∧ σ.mem = mem0) r_26) := ⟨_, rfl⟩
    refine loopP ({ hd := [0, 1, 5], bx := [], ex := [], rt := [4] }) I_4 X_5 h_27 (by exact rfl) ?_ ?_ ?_
    · rw [I_4_]
      exact ⟨by simp [restrict_env, h_1], by simp [restrict_env, h_1], by simp [restrict_env, h_1], by simp [restrict_mem, h_1]⟩
    · intro s_2 σ_6 a_3 hI hp
      rw [I_4_] at hI
      obtain ⟨q_7, q_8, q_9, q_10⟩ := hI
      try simp [h_1, q_7, q_8, q_9, q_10]
      rcases cond_cases hp with ⟨h_11, hp⟩ | ⟨h_11, hp⟩
      · try simp at h_11
        obtain ⟨e_12, h_13, hp⟩ := bind_some hp
        have b_14 := at_lo h_13
        have b_15 := at_hi h_13
        try simp at b_14
        try simp at b_15
        have c_16 := seg_at' h_13 0 2 (by decide) (ds := [.sl e_12.nodes.length (encL e_12.nodes), .sl e_12.next.length (encL e_12.next)]) rfl
        try simp at c_16
        obtain ⟨e_17, h_18, hp⟩ := bind_some hp
        have b_19 := at_lo h_18
        have b_20 := at_hi h_18
        try simp at b_19
        try simp at b_20
        have c_21 := seg_at' h_18 0 2 (by decide) (ds := [.sl e_17.nodes.length (encL e_17.nodes), .sl e_17.next.length (encL e_17.next)]) rfl
        try simp at c_21
        obtain ⟨y_22, h_23, hp⟩ := bind_some hp
        have c_24 := C24_eq h_23
        simp at c_24
        try simp [h_1, q_7, q_8, q_9, q_10, h_11, b_14, b_15, c_16, b_19, b_20, c_21, c_24]
        rcases cond_cases hp with ⟨h_25, hp⟩ | ⟨h_25, hp⟩
        · try simp at h_25
          cases hp
          try simp [h_1, q_7, q_8, q_9, q_10, h_11, h_25]
          refine goal_next ?_
          rw [I_4_]
          exact ⟨by simp [restrict_env, h_1, q_7, q_8, q_9, q_10, h_11, h_25], by simp [restrict_env, h_1, q_7, q_8, q_9, q_10, h_11, h_25], by simp [restrict_env, h_1, q_7, q_8, q_9, q_10, h_11, h_25], by simp [restrict_mem, h_1, q_7, q_8, q_9, q_10, h_11, h_25]⟩
        · try simp at h_25
          cases hp
          try simp [h_1, q_7, q_8, q_9, q_10, h_11, h_25]
          refine goal_outR ?_
          rw [X_5_]
          exact ⟨_, rfl, by simp [restrict_env, h_1, q_7, q_8, q_9, q_10, h_11, h_25], by simp [restrict_mem, h_1, q_7, q_8, q_9, q_10, h_11, h_25]⟩
      · try simp at h_11
        cases hp
        try simp [h_1, q_7, q_8, q_9, q_10, h_11]
        refine goal_outX ?_
        rw [X_5_]
        exact ⟨_, rfl, by simp [restrict_mem, h_1, q_7, q_8, q_9, q_10, h_11]⟩
    · intro out hX
      rw [X_5_] at hX
      rcases r_26 with r_26 | r_26
      · simp only [Sum.elim_inl, Sum.elim_inr] at hX hp
        obtain ⟨σ_28, rfl, q_29, q_30⟩ := hX
        cases hp
        simp [Goal, FnEnd, h_1, q_29, q_30]
      · simp only [Sum.elim_inl, Sum.elim_inr] at hX hp
        obtain ⟨σ_31, rfl, q_32⟩ := hX
        cases hp
        simp [Goal, FnEnd, h_1, q_32]
theorem pc23 : PC Try.prog 23 C23 := pc_of (g := g23) (ctxOK_of [(24, C24)] rfl ⟨pc24, trivial⟩) ⟨Try.f23, Try.func23, by kernel_rfl, by kernel_rfl⟩ fun x y h => w23 h

noncomputable def C55 : List AV → Option AV := specP (X := (List Int) × Int × Unit) fun x => laws_heldIntS x.1 x.2.1
theorem C55_eq {a_ k_} {y} (h : laws_heldIntS a_ k_ = some y) : C55 [av .shr a_, av .shr k_] = some (Res.res y) := specP_eq (X := (List Int) × Int × Unit) (F := fun x => laws_heldIntS x.1 x.2.1) (x := (a_, k_, ())) h
noncomputable def g55 : Cfg := { P := Try.prog, take := [], keep := [((55, 2), { hd := [0, 1, 5], bx := [], ex := [1], rt := [4] })], gho := [], ctx := [] }
@[simp] theorem g55_P : g55.P = Try.prog := rfl
@[simp] theorem g55_t : g55.take = [] := rfl
@[simp] theorem g55_g : g55.gho = [] := rfl
@[simp] theorem g55_r : g55.ro = [] := rfl
@[simp] theorem g55_w : g55.away = [] := by rw [g55]
set_option maxHeartbeats 4000000 in
set_option maxRecDepth 100000 in
theorem w55 {a_ k_} {y} (hp : laws_heldIntS a_ k_ = some y) : ∃ m, callo g55 0 55 [av .shr a_, av .shr k_] mem0 = some (Res.res y, m) := by
  refine start_fn (Try.f55.body.getD .skip) [.tmp 4] rfl rfl Try.func55 (by kernel_rfl) (by kernel_rfl) (by simp [Try.ntmps55]) rfl ?_
  unfold laws_heldIntS at hp
  simp [Try.f55]
  obtain ⟨r_17, h_18, hp⟩ := bind_some hp
  obtain ⟨I_3, I_3_⟩ : ∃ I : Int × Int → St → Prop, I = (fun (s_1 : Int × Int) (σ : St) => σ.env 0 = .one (.l .shr a_.length (encL a_)) ∧ σ.env 1 = .one (.s (.int .i64 s_1.1)) ∧ σ.env 5 = .one (.s (.int .i64 s_1.2)) ∧ σ.mem = mem0) := ⟨_, rfl⟩
  obtain ⟨X_4, X_4_⟩ : ∃ X : ((Int) ⊕ (Int)) → Out → Prop, X = (fun (r_17 : (Int) ⊕ (Int)) (out : Out) => Sum.elim (fun r_17 => ∃ σ : St, out = .ret σ ∧ σ.env 4 = .one (.s (.int .i64 r_17)) ∧ σ.mem = mem0) (fun r_17 => ∃ σ : St, out = .exit 0 σ ∧ σ.env 1 = .one (.s (.int .i64 r_17)) ∧ σ.mem = mem0) r_17) := ⟨_, rfl⟩
  refine loopP ({ hd := [0, 1, 5], bx := [], ex := [1], rt := [4] }) I_3 X_4 h_18 (by exact rfl) ?_ ?_ ?_
  · rw [I_3_]
    exact ⟨by simp [restrict_env], by simp [restrict_env], by simp [restrict_env], by simp [restrict_mem]⟩
  · intro s_1 σ_5 a_2 hI hp
    rw [I_3_] at hI
    obtain ⟨q_6, q_7, q_8, q_9⟩ := hI
    try simp [q_6, q_7, q_8, q_9]
    rcases cond_cases hp with ⟨h_10, hp⟩ | ⟨h_10, hp⟩
    · try simp at h_10
      obtain ⟨e_11, h_12, hp⟩ := bind_some hp
      have b_13 := at_lo h_12
      have b_14 := at_hi h_12
      try simp at b_13
      try simp at b_14
      have c_15 := seg_at' h_12 0 1 (by decide) (ds := [.sc (.int .i64 e_11)]) rfl
      try simp at c_15
      try simp [q_6, q_7, q_8, q_9, h_10, b_13, b_14, c_15]
      rcases cond_cases hp with ⟨h_16, hp⟩ | ⟨h_16, hp⟩
      · try simp at h_16
        cases hp
        try simp [q_6, q_7, q_8, q_9, h_10, h_16]
        refine goal_outR ?_
        rw [X_4_]
        exact ⟨_, rfl, by simp [restrict_env, q_6, q_7, q_8, q_9, h_10, h_16], by simp [restrict_mem, q_6, q_7, q_8, q_9, h_10, h_16]⟩
      · try simp at h_16
        cases hp
        try simp [q_6, q_7, q_8, q_9, h_10, h_16]
        refine goal_next ?_
        rw [I_3_]
        exact ⟨by simp [restrict_env, q_6, q_7, q_8, q_9, h_10, h_16], by simp [restrict_env, q_6, q_7, q_8, q_9, h_10, h_16], by simp [restrict_env, q_6, q_7, q_8, q_9, h_10, h_16], by simp [restrict_mem, q_6, q_7, q_8, q_9, h_10, h_16]⟩
    · try simp at h_10
      cases hp
      try simp [q_6, q_7, q_8, q_9, h_10]
      refine goal_outX ?_
      rw [X_4_]
      exact ⟨_, rfl, by simp [restrict_env, q_6, q_7, q_8, q_9, h_10], by simp [restrict_mem, q_6, q_7, q_8, q_9, h_10]⟩
  · intro out hX
    rw [X_4_] at hX
    rcases r_17 with r_17 | r_17
    · simp only [Sum.elim_inl, Sum.elim_inr] at hX hp
      obtain ⟨σ_19, rfl, q_20, q_21⟩ := hX
      cases hp
      simp [Goal, FnEnd, q_20, q_21]
    · simp only [Sum.elim_inl, Sum.elim_inr] at hX hp
      obtain ⟨σ_22, rfl, q_23, q_24⟩ := hX
      cases hp
      simp [Goal, FnEnd, q_23, q_24]
theorem pc55 : PC Try.prog 55 C55 := pc_of (g := g55) (fun f F h => by cases h) ⟨Try.f55, Try.func55, by kernel_rfl, by kernel_rfl⟩ fun x y h => w55 h

noncomputable def C87 : List AV → Option AV := specP (X := (List TNode) × Int × Unit) fun x => laws_heldNodeS x.1 x.2.1
theorem C87_eq {a_ k_} {y} (h : laws_heldNodeS a_ k_ = some y) : C87 [av .shr a_, av .shr k_] = some (Res.res y) := specP_eq (X := (List TNode) × Int × Unit) (F := fun x => laws_heldNodeS x.1 x.2.1) (x := (a_, k_, ())) h
noncomputable def g87 : Cfg := { P := Try.prog, take := [], keep := [((87, 2), { hd := [0, 1, 5], bx := [], ex := [1], rt := [4] })], gho := [], ctx := [(55, C55)] }
@[simp] theorem g87_P : g87.P = Try.prog := rfl
@[simp] theorem g87_t : g87.take = [] := rfl
@[simp] theorem g87_g : g87.gho = [] := rfl
@[simp] theorem g87_r : g87.ro = [] := rfl
@[simp] theorem g87_w : g87.away = [] := by rw [g87]
@[simp] theorem g87_55 : lookN 55 g87.ctx = some C55 := rfl
set_option maxHeartbeats 4000000 in
set_option maxRecDepth 100000 in
theorem w87 {a_ k_} {y} (hp : laws_heldNodeS a_ k_ = some y) : ∃ m, callo g87 0 87 [av .shr a_, av .shr k_] mem0 = some (Res.res y, m) := by
  refine start_fn (Try.f87.body.getD .skip) [.tmp 4] rfl rfl Try.func87 (by kernel_rfl) (by kernel_rfl) (by simp [Try.ntmps87]) rfl ?_
  unfold laws_heldNodeS at hp
  simp [Try.f87]
  obtain ⟨r_41, h_42, hp⟩ := bind_some hp
  obtain ⟨I_3, I_3_⟩ : ∃ I : Int × Int → St → Prop, I = (fun (s_1 : Int × Int) (σ : St) => σ.env 0 = .one (.l .shr a_.length (encL a_)) ∧ σ.env 1 = .one (.s (.int .i64 s_1.1)) ∧ σ.env 5 = .one (.s (.int .i64 s_1.2)) ∧ σ.mem = mem0) := ⟨_, rfl⟩
  obtain ⟨X_4, X_4_⟩ : ∃ X : ((Int) ⊕ (Int)) → Out → Prop, X = (fun (r_41 : (Int) ⊕ (Int)) (out : Out) => Sum.elim (fun r_41 => ∃ σ : St, out = .ret σ ∧ σ.env 4 = .one (.s (.int .i64 r_41)) ∧ σ.mem = mem0) (fun r_41 => ∃ σ : St, out = .exit 0 σ ∧ σ.env 1 = .one (.s (.int .i64 r_41)) ∧ σ.mem = mem0) r_41) := ⟨_, rfl⟩
  refine loopP ({ hd := [0, 1, 5], bx := [], ex := [1], rt := [4] }) I_3 X_4 h_42 (by exact rfl) ?_ ?_ ?_
  · rw [I_3_]
    exact ⟨by simp [restrict_env], by simp [restrict_env], by simp [restrict_env], by simp [restrict_mem]⟩
  · intro s_1 σ_5 a_2 hI hp
    rw [I_3_] at hI
    obtain ⟨q_6, q_7, q_8, q_9⟩ := hI
    try simp [q_6, q_7, q_8, q_9]
    rcases cond_cases hp with ⟨h_10, hp⟩ | ⟨h_10, hp⟩
    · try simp at h_10
      obtain ⟨e_11, h_12, hp⟩ := bind_some hp
      have b_13 := at_lo h_12
      have b_14 := at_hi h_12
      try simp at b_13
      try simp at b_14
      have c_15 := seg_at' h_12 0 1 (by decide) (ds := [.sl e_11.vars.length (encL e_11.vars)]) rfl
      try simp at c_15
      obtain ⟨y_16, h_17, hp⟩ := bind_some hp
      have c_18 := C55_eq h_17
      simp at c_18
      try simp [q_6, q_7, q_8, q_9, h_10, b_13, b_14, c_15, c_18]
      rcases cond_cases hp with ⟨h_19, hp⟩ | ⟨h_19, hp⟩
      · try simp at h_19
        cases hp
        try simp [q_6, q_7, q_8, q_9, h_10, h_19]
        refine goal_outR ?_
        rw [X_4_]
        exact ⟨_, rfl, by simp [restrict_env, q_6, q_7, q_8, q_9, h_10, h_19], by simp [restrict_mem, q_6, q_7, q_8, q_9, h_10, h_19]⟩
      · try simp at h_19
        obtain ⟨e_20, h_21, hp⟩ := bind_some hp
        cases Option.some.inj (h_12.symm.trans h_21)
        have b_22 := at_lo h_12
        have b_23 := at_hi h_12
        try simp at b_22
        try simp at b_23
        have c_24 := seg_at' h_12 1 1 (by decide) (ds := [.sl e_11.reach.length (encL e_11.reach)]) rfl
        try simp at c_24
        obtain ⟨y_25, h_26, hp⟩ := bind_some hp
        have c_27 := C55_eq h_26
        simp at c_27
        try simp [q_6, q_7, q_8, q_9, h_10, h_19, b_22, b_23, c_24, c_27]
        rcases cond_cases hp with ⟨h_28, hp⟩ | ⟨h_28, hp⟩
        · try simp at h_28
          cases hp
          try simp [q_6, q_7, q_8, q_9, h_10, h_19, h_28]
          refine goal_outR ?_
          rw [X_4_]
          exact ⟨_, rfl, by simp [restrict_env, q_6, q_7, q_8, q_9, h_10, h_19, h_28], by simp [restrict_mem, q_6, q_7, q_8, q_9, h_10, h_19, h_28]⟩
        · try simp at h_28
          obtain ⟨e_29, h_30, hp⟩ := bind_some hp
          cases Option.some.inj (h_12.symm.trans h_30)
          have b_31 := at_lo h_12
          have b_32 := at_hi h_12
          try simp at b_31
          try simp at b_32
          have c_33 := seg_at' h_12 2 1 (by decide) (ds := [.sc (.int .i64 e_11.shared)]) rfl
          try simp at c_33
          try simp [q_6, q_7, q_8, q_9, h_10, h_19, h_28, b_31, b_32, c_33]
          rcases cond_cases hp with ⟨h_34, hp⟩ | ⟨h_34, hp⟩
          · try simp at h_34
            cases hp
            try simp [q_6, q_7, q_8, q_9, h_10, h_19, h_28, h_34]
            refine goal_outR ?_
            rw [X_4_]
            exact ⟨_, rfl, by simp [restrict_env, q_6, q_7, q_8, q_9, h_10, h_19, h_28, h_34], by simp [restrict_mem, q_6, q_7, q_8, q_9, h_10, h_19, h_28, h_34]⟩
          · try simp at h_34
            obtain ⟨e_35, h_36, hp⟩ := bind_some hp
            cases Option.some.inj (h_12.symm.trans h_36)
            have b_37 := at_lo h_12
            have b_38 := at_hi h_12
            try simp at b_37
            try simp at b_38
            have c_39 := seg_at' h_12 3 1 (by decide) (ds := [.sc (.int .i64 e_11.many)]) rfl
            try simp at c_39
            try simp [q_6, q_7, q_8, q_9, h_10, h_19, h_28, h_34, b_37, b_38, c_39]
            rcases cond_cases hp with ⟨h_40, hp⟩ | ⟨h_40, hp⟩
            · try simp at h_40
              cases hp
              try simp [q_6, q_7, q_8, q_9, h_10, h_19, h_28, h_34, h_40]
              refine goal_outR ?_
              rw [X_4_]
              exact ⟨_, rfl, by simp [restrict_env, q_6, q_7, q_8, q_9, h_10, h_19, h_28, h_34, h_40], by simp [restrict_mem, q_6, q_7, q_8, q_9, h_10, h_19, h_28, h_34, h_40]⟩
            · try simp at h_40
              cases hp
              try simp [q_6, q_7, q_8, q_9, h_10, h_19, h_28, h_34, h_40]
              refine goal_next ?_
              rw [I_3_]
              exact ⟨by simp [restrict_env, q_6, q_7, q_8, q_9, h_10, h_19, h_28, h_34, h_40], by simp [restrict_env, q_6, q_7, q_8, q_9, h_10, h_19, h_28, h_34, h_40], by simp [restrict_env, q_6, q_7, q_8, q_9, h_10, h_19, h_28, h_34, h_40], by simp [restrict_mem, q_6, q_7, q_8, q_9, h_10, h_19, h_28, h_34, h_40]⟩
    · try simp at h_10
      cases hp
      try simp [q_6, q_7, q_8, q_9, h_10]
      refine goal_outX ?_
      rw [X_4_]
      exact ⟨_, rfl, by simp [restrict_env, q_6, q_7, q_8, q_9, h_10], by simp [restrict_mem, q_6, q_7, q_8, q_9, h_10]⟩
  · intro out hX
    rw [X_4_] at hX
    rcases r_41 with r_41 | r_41
    · simp only [Sum.elim_inl, Sum.elim_inr] at hX hp
      obtain ⟨σ_43, rfl, q_44, q_45⟩ := hX
      cases hp
      simp [Goal, FnEnd, q_44, q_45]
    · simp only [Sum.elim_inl, Sum.elim_inr] at hX hp
      obtain ⟨σ_46, rfl, q_47, q_48⟩ := hX
      cases hp
      simp [Goal, FnEnd, q_47, q_48]
theorem pc87 : PC Try.prog 87 C87 := pc_of (g := g87) (ctxOK_of [(55, C55)] rfl ⟨pc55, trivial⟩) ⟨Try.f87, Try.func87, by kernel_rfl, by kernel_rfl⟩ fun x y h => w87 h

noncomputable def C27 : List AV → Option AV := specP (X := (List TStructure) × Int × Unit) fun x => laws_heldStructureS x.1 x.2.1
theorem C27_eq {a_ k_} {y} (h : laws_heldStructureS a_ k_ = some y) : C27 [av .shr a_, av .shr k_] = some (Res.res y) := specP_eq (X := (List TStructure) × Int × Unit) (F := fun x => laws_heldStructureS x.1 x.2.1) (x := (a_, k_, ())) h
noncomputable def g27 : Cfg := { P := Try.prog, take := [], keep := [((27, 2), { hd := [0, 1, 5], bx := [], ex := [1], rt := [4] })], gho := [], ctx := [(55, C55), (87, C87)] }
@[simp] theorem g27_P : g27.P = Try.prog := rfl
@[simp] theorem g27_t : g27.take = [] := rfl
@[simp] theorem g27_g : g27.gho = [] := rfl
@[simp] theorem g27_r : g27.ro = [] := rfl
@[simp] theorem g27_w : g27.away = [] := by rw [g27]
@[simp] theorem g27_55 : lookN 55 g27.ctx = some C55 := rfl
@[simp] theorem g27_87 : lookN 87 g27.ctx = some C87 := rfl
set_option maxHeartbeats 4000000 in
set_option maxRecDepth 100000 in
theorem w27 {a_ k_} {y} (hp : laws_heldStructureS a_ k_ = some y) : ∃ m, callo g27 0 27 [av .shr a_, av .shr k_] mem0 = some (Res.res y, m) := by
  refine start_fn (Try.f27.body.getD .skip) [.tmp 4] rfl rfl Try.func27 (by kernel_rfl) (by kernel_rfl) (by simp [Try.ntmps27]) rfl ?_
  unfold laws_heldStructureS at hp
  simp [Try.f27]
  obtain ⟨r_29, h_30, hp⟩ := bind_some hp
  obtain ⟨I_3, I_3_⟩ : ∃ I : Int × Int → St → Prop, I = (fun (s_1 : Int × Int) (σ : St) => σ.env 0 = .one (.l .shr a_.length (encL a_)) ∧ σ.env 1 = .one (.s (.int .i64 s_1.1)) ∧ σ.env 5 = .one (.s (.int .i64 s_1.2)) ∧ σ.mem = mem0) := ⟨_, rfl⟩
  obtain ⟨X_4, X_4_⟩ : ∃ X : ((Int) ⊕ (Int)) → Out → Prop, X = (fun (r_29 : (Int) ⊕ (Int)) (out : Out) => Sum.elim (fun r_29 => ∃ σ : St, out = .ret σ ∧ σ.env 4 = .one (.s (.int .i64 r_29)) ∧ σ.mem = mem0) (fun r_29 => ∃ σ : St, out = .exit 0 σ ∧ σ.env 1 = .one (.s (.int .i64 r_29)) ∧ σ.mem = mem0) r_29) := ⟨_, rfl⟩
  refine loopP ({ hd := [0, 1, 5], bx := [], ex := [1], rt := [4] }) I_3 X_4 h_30 (by exact rfl) ?_ ?_ ?_
  · rw [I_3_]
    exact ⟨by simp [restrict_env], by simp [restrict_env], by simp [restrict_env], by simp [restrict_mem]⟩
  · intro s_1 σ_5 a_2 hI hp
    rw [I_3_] at hI
    obtain ⟨q_6, q_7, q_8, q_9⟩ := hI
    try simp [q_6, q_7, q_8, q_9]
    rcases cond_cases hp with ⟨h_10, hp⟩ | ⟨h_10, hp⟩
    · try simp at h_10
      obtain ⟨e_11, h_12, hp⟩ := bind_some hp
      have b_13 := at_lo h_12
      have b_14 := at_hi h_12
      try simp at b_13
      try simp at b_14
      have c_15 := seg_at' h_12 0 1 (by decide) (ds := [.sl e_11.nodes.length (encL e_11.nodes)]) rfl
      try simp at c_15
      obtain ⟨y_16, h_17, hp⟩ := bind_some hp
      have c_18 := C87_eq h_17
      simp at c_18
      try simp [q_6, q_7, q_8, q_9, h_10, b_13, b_14, c_15, c_18]
      rcases cond_cases hp with ⟨h_19, hp⟩ | ⟨h_19, hp⟩
      · try simp at h_19
        cases hp
        try simp [q_6, q_7, q_8, q_9, h_10, h_19]
        refine goal_outR ?_
        rw [X_4_]
        exact ⟨_, rfl, by simp [restrict_env, q_6, q_7, q_8, q_9, h_10, h_19], by simp [restrict_mem, q_6, q_7, q_8, q_9, h_10, h_19]⟩
      · try simp at h_19
        obtain ⟨e_20, h_21, hp⟩ := bind_some hp
        cases Option.some.inj (h_12.symm.trans h_21)
        have b_22 := at_lo h_12
        have b_23 := at_hi h_12
        try simp at b_22
        try simp at b_23
        have c_24 := seg_at' h_12 1 1 (by decide) (ds := [.sl e_11.next.length (encL e_11.next)]) rfl
        try simp at c_24
        obtain ⟨y_25, h_26, hp⟩ := bind_some hp
        have c_27 := C55_eq h_26
        simp at c_27
        try simp [q_6, q_7, q_8, q_9, h_10, h_19, b_22, b_23, c_24, c_27]
        rcases cond_cases hp with ⟨h_28, hp⟩ | ⟨h_28, hp⟩
        · try simp at h_28
          cases hp
          try simp [q_6, q_7, q_8, q_9, h_10, h_19, h_28]
          refine goal_outR ?_
          rw [X_4_]
          exact ⟨_, rfl, by simp [restrict_env, q_6, q_7, q_8, q_9, h_10, h_19, h_28], by simp [restrict_mem, q_6, q_7, q_8, q_9, h_10, h_19, h_28]⟩
        · try simp at h_28
          cases hp
          try simp [q_6, q_7, q_8, q_9, h_10, h_19, h_28]
          refine goal_next ?_
          rw [I_3_]
          exact ⟨by simp [restrict_env, q_6, q_7, q_8, q_9, h_10, h_19, h_28], by simp [restrict_env, q_6, q_7, q_8, q_9, h_10, h_19, h_28], by simp [restrict_env, q_6, q_7, q_8, q_9, h_10, h_19, h_28], by simp [restrict_mem, q_6, q_7, q_8, q_9, h_10, h_19, h_28]⟩
    · try simp at h_10
      cases hp
      try simp [q_6, q_7, q_8, q_9, h_10]
      refine goal_outX ?_
      rw [X_4_]
      exact ⟨_, rfl, by simp [restrict_env, q_6, q_7, q_8, q_9, h_10], by simp [restrict_mem, q_6, q_7, q_8, q_9, h_10]⟩
  · intro out hX
    rw [X_4_] at hX
    rcases r_29 with r_29 | r_29
    · simp only [Sum.elim_inl, Sum.elim_inr] at hX hp
      obtain ⟨σ_31, rfl, q_32, q_33⟩ := hX
      cases hp
      simp [Goal, FnEnd, q_32, q_33]
    · simp only [Sum.elim_inl, Sum.elim_inr] at hX hp
      obtain ⟨σ_34, rfl, q_35, q_36⟩ := hX
      cases hp
      simp [Goal, FnEnd, q_35, q_36]
theorem pc27 : PC Try.prog 27 C27 := pc_of (g := g27) (ctxOK_of [(55, C55), (87, C87)] rfl ⟨pc55, pc87, trivial⟩) ⟨Try.f27, Try.func27, by kernel_rfl, by kernel_rfl⟩ fun x y h => w27 h

noncomputable def C5 : List AV → Option AV := specP (X := TStructure × Int × Unit) fun x => laws_FnExactFocusNext x.1 x.2.1
theorem C5_eq {aS aK} {y} (h : laws_FnExactFocusNext aS aK = some y) : C5 [av .shr aS, av .shr aK] = some (Res.res y) := specP_eq (X := TStructure × Int × Unit) (F := fun x => laws_FnExactFocusNext x.1 x.2.1) (x := (aS, aK, ())) h
noncomputable def g5 : Cfg := { P := Try.prog, take := [], keep := [((86, 2), rowKp), ((54, 2), rowKp), ((26, 2), rowKp)], gho := [((5, 13), [.many (thawBox 1 7)]), ((5, 2000013), [.many (frzBox 1 7)]), ((5, 17), [.many (thawSlot 1 8)]), ((5, 2000017), [.many (frzSlot 1 8)])], ctx := [(19, C19), (20, C20), (21, C21), (22, C22), (23, C23), (24, C24), (27, C27)] }
@[simp] theorem g5_P : g5.P = Try.prog := rfl
@[simp] theorem g5_t : g5.take = [] := rfl
@[simp] theorem g5_g : g5.gho = [((5, 13), [.many (thawBox 1 7)]), ((5, 2000013), [.many (frzBox 1 7)]), ((5, 17), [.many (thawSlot 1 8)]), ((5, 2000017), [.many (frzSlot 1 8)])] := rfl
@[simp] theorem g5_r : g5.ro = [] := rfl
@[simp] theorem g5_w : g5.away = [] := by rw [g5]
@[simp] theorem g5_19 : lookN 19 g5.ctx = some C19 := rfl
@[simp] theorem g5_20 : lookN 20 g5.ctx = some C20 := rfl
@[simp] theorem g5_21 : lookN 21 g5.ctx = some C21 := rfl
@[simp] theorem g5_22 : lookN 22 g5.ctx = some C22 := rfl
@[simp] theorem g5_23 : lookN 23 g5.ctx = some C23 := rfl
@[simp] theorem g5_24 : lookN 24 g5.ctx = some C24 := rfl
@[simp] theorem g5_27 : lookN 27 g5.ctx = some C27 := rfl
@[simp] theorem g5_25 : lookN 25 g5.ctx = none := rfl
@[simp] theorem g5_86 : lookN 86 g5.ctx = none := rfl
@[simp] theorem g5_54 : lookN 54 g5.ctx = none := rfl
@[simp] theorem g5_26 : lookN 26 g5.ctx = none := rfl
set_option maxHeartbeats 4000000 in
set_option maxRecDepth 100000 in
theorem w5 {aS aK} {y} (hp : laws_FnExactFocusNext aS aK = some y) : ∃ m, callo g5 0 5 [av .shr aS, av .shr aK] mem0 = some (Res.res y, m) := by
  have G_25 : G25 g5 := ⟨rfl, by kernel_rfl, rfl, fun t => by simp, noAway (fun t => by simp) (by simp), fun i => by simp [lookK], by simp [g5, lookK], by simp⟩
  have G_86 : G86 g5 := ⟨rfl, by kernel_rfl, rfl, fun t => by simp, noAway (fun t => by simp) (by simp), fun i => by simp [lookK], by simp [g5, lookK], by simp⟩
  have G_54 : G54 g5 := ⟨rfl, by kernel_rfl, rfl, fun t => by simp, noAway (fun t => by simp) (by simp), fun i => by simp [lookK], by simp [g5, lookK], by simp⟩
  have G_26 : G26 g5 := ⟨rfl, by kernel_rfl, rfl, fun t => by simp, noAway (fun t => by simp) (by simp), fun i => by simp [lookK], by simp [g5, lookK], by simp⟩
  refine start_fn (Try.f5.body.getD .skip) [.tmp 4] rfl rfl Try.func5 (by kernel_rfl) (by kernel_rfl) (by simp [Try.ntmps5]) rfl ?_
  unfold laws_FnExactFocusNext at hp
  obtain ⟨y_1, h_2, hp⟩ := bind_some hp
  have c_3 := C19_eq h_2
  simp at c_3
  simp [Try.f5, c_3]
  rcases cond_cases hp with ⟨h_4, hp⟩ | ⟨h_4, hp⟩
  · try simp at h_4
    cases hp
    simp [Goal, FnEnd, h_4]
  · try simp at h_4
    obtain ⟨y_5, h_6, hp⟩ := bind_some hp
    have c_7 := C21_eq h_6
    simp at c_7
    obtain ⟨y_8, h_9, hp⟩ := bind_some hp
    have c_10 := C20_eq h_9
    simp at c_10
    obtain ⟨y_11, h_12, hp⟩ := bind_some hp
    cases Option.some.inj (h_6.symm.trans h_12)
    obtain ⟨y_13, h_14, hp⟩ := bind_some hp
    have c_15 := C22_eq h_14
    simp at c_15
    obtain ⟨y_16, h_17, hp⟩ := bind_some hp
    have c_18 := C23_eq h_17
    simp at c_18
    try simp [h_4, c_7, c_10, c_7, c_15, c_18]
    rcases cond_cases hp with ⟨h_19, hp⟩ | ⟨h_19, hp⟩
    · try simp at h_19
      obtain ⟨y_20, h_21, hp⟩ := bind_some hp
      cases Option.some.inj (h_6.symm.trans h_21)
      obtain ⟨y_22, h_23, hp⟩ := bind_some hp
      have c_24 := C24_eq h_23
      simp at c_24
      try simp [h_4, h_19, c_7, c_24]
      rcases cond_cases hp with ⟨h_25, hp⟩ | ⟨h_25, hp⟩
      · try simp at h_25
        obtain ⟨r_26, h_27, hp⟩ := bind_some hp
        obtain ⟨lg_28, e_29⟩ := markO_eq h_27
        have mk_30 := mk25 G_25 G_86 G_54 y_5 1 lg_28
        rw [e_29] at mk_30
        try simp [h_4, h_19, h_25]
        refine goal_markB 7 7 9 36 37 38 25 mk_30 (show ti g5.P 52 = some _ from ti_52) rfl rfl (by decide) (by simp [h_4, h_19, h_25]) (by simp [h_4, h_19, h_25]) (by simp [h_4, h_19, h_25]) (WfE.wfE _) (WfE.wfE _) (fun key hkey => by simp [mem0, key_low hkey 1 2 (by decide), key_low hkey 1 7 (by decide), h_4, h_19, h_25]) (by simp) (by simp) (by simp) rfl (by decide) fun σ_31 qq_32 hq_33 hx_34 hk_35 he_36 hd_37 hm_38 => ?_
        have q_39 : σ_31.env 1 = .one (.s (.int .i64 aK)) := (he_36 1 (by decide) (by decide) (by decide) (by decide)).trans (by simp [h_4, h_19, h_25, hq_33 (1, 2) (by decide) (by decide), hq_33 (1, 7) (by decide) (by decide)])
        have q_40 : σ_31.env 2 = .one (.ptr (1, 2) 0) := (he_36 2 (by decide) (by decide) (by decide) (by decide)).trans (by simp [h_4, h_19, h_25, hq_33 (1, 2) (by decide) (by decide), hq_33 (1, 7) (by decide) (by decide)])
        have q_41 : σ_31.env 4 = .one (.s (.bool false)) := (he_36 4 (by decide) (by decide) (by decide) (by decide)).trans (by simp [h_4, h_19, h_25, hq_33 (1, 2) (by decide) (by decide), hq_33 (1, 7) (by decide) (by decide)])
        have q_42 : σ_31.env 5 = .one (.s (.int .i64 y_1)) := (he_36 5 (by decide) (by decide) (by decide) (by decide)).trans (by simp [h_4, h_19, h_25, hq_33 (1, 2) (by decide) (by decide), hq_33 (1, 7) (by decide) (by decide)])
        have q_43 : σ_31.env 6 = .one (.l .own y_8.length (encL y_8)) := (he_36 6 (by decide) (by decide) (by decide) (by decide)).trans (by simp [h_4, h_19, h_25, hq_33 (1, 2) (by decide) (by decide), hq_33 (1, 7) (by decide) (by decide)])
        have q_44 : σ_31.env 7 = .one (.ptr (1, 7) 0) := (he_36 7 (by decide) (by decide) (by decide) (by decide)).trans (by simp [h_4, h_19, h_25, hq_33 (1, 2) (by decide) (by decide), hq_33 (1, 7) (by decide) (by decide)])
        have q_45 : σ_31.env 8 = .one (.l .own y_13.length (encL y_13)) := (he_36 8 (by decide) (by decide) (by decide) (by decide)).trans (by simp [h_4, h_19, h_25, hq_33 (1, 2) (by decide) (by decide), hq_33 (1, 7) (by decide) (by decide)])
        have q_46 : σ_31.env 9 = .one (.s (.int .i64 r_26.2)) := hk_35
        have q_47 : σ_31.env 13 = .ag [(.l .shr aS.nodes.length (encL aS.nodes)), (.l .shr aS.next.length (encL aS.next))] := (he_36 13 (by decide) (by decide) (by decide) (by decide)).trans (by simp [h_4, h_19, h_25, hq_33 (1, 2) (by decide) (by decide), hq_33 (1, 7) (by decide) (by decide)])
        have q_48 : σ_31.env 14 = .one (.s (.int .i64 1048576)) := (he_36 14 (by decide) (by decide) (by decide) (by decide)).trans (by simp [h_4, h_19, h_25, hq_33 (1, 2) (by decide) (by decide), hq_33 (1, 7) (by decide) (by decide)])
        have q_49 : σ_31.env 16 = .one (.s (.int .i64 y_1)) := (he_36 16 (by decide) (by decide) (by decide) (by decide)).trans (by simp [h_4, h_19, h_25, hq_33 (1, 2) (by decide) (by decide), hq_33 (1, 7) (by decide) (by decide)])
        have q_50 : σ_31.env 17 = .one (.s (.bool (ltI y_1 0))) := (he_36 17 (by decide) (by decide) (by decide) (by decide)).trans (by simp [h_4, h_19, h_25, hq_33 (1, 2) (by decide) (by decide), hq_33 (1, 7) (by decide) (by decide)])
        have q_51 : σ_31.env 18 = .ag [(.l .shr aS.nodes.length (encL aS.nodes)), (.l .shr aS.next.length (encL aS.next))] := (he_36 18 (by decide) (by decide) (by decide) (by decide)).trans (by simp [h_4, h_19, h_25, hq_33 (1, 2) (by decide) (by decide), hq_33 (1, 7) (by decide) (by decide)])
        have q_52 : σ_31.env 19 = .ag [(.l .own y_5.nodes.length (encL y_5.nodes)), (.l .own y_5.next.length (encL y_5.next))] := (he_36 19 (by decide) (by decide) (by decide) (by decide)).trans (by simp [h_4, h_19, h_25, hq_33 (1, 2) (by decide) (by decide), hq_33 (1, 7) (by decide) (by decide)])
        have q_53 : σ_31.env 20 = .one (.s (.int .i64 aK)) := (he_36 20 (by decide) (by decide) (by decide) (by decide)).trans (by simp [h_4, h_19, h_25, hq_33 (1, 2) (by decide) (by decide), hq_33 (1, 7) (by decide) (by decide)])
        have q_54 : σ_31.env 22 = .ag [(.l .shr aS.nodes.length (encL aS.nodes)), (.l .shr aS.next.length (encL aS.next))] := (he_36 22 (by decide) (by decide) (by decide) (by decide)).trans (by simp [h_4, h_19, h_25, hq_33 (1, 2) (by decide) (by decide), hq_33 (1, 7) (by decide) (by decide)])
        have q_55 : σ_31.env 25 = .one (.s (.int .i64 aK)) := (he_36 25 (by decide) (by decide) (by decide) (by decide)).trans (by simp [h_4, h_19, h_25, hq_33 (1, 2) (by decide) (by decide), hq_33 (1, 7) (by decide) (by decide)])
        have q_56 : σ_31.env 29 = .one (.s (.bool y_16)) := (he_36 29 (by decide) (by decide) (by decide) (by decide)).trans (by simp [h_4, h_19, h_25, hq_33 (1, 2) (by decide) (by decide), hq_33 (1, 7) (by decide) (by decide)])
        have q_57 : σ_31.env 30 = .one (.s (.bool (notB y_16))) := (he_36 30 (by decide) (by decide) (by decide) (by decide)).trans (by simp [h_4, h_19, h_25, hq_33 (1, 2) (by decide) (by decide), hq_33 (1, 7) (by decide) (by decide)])
        have q_58 : σ_31.env 32 = .ag [(.l .shr aS.nodes.length (encL aS.nodes)), (.l .shr aS.next.length (encL aS.next))] := (he_36 32 (by decide) (by decide) (by decide) (by decide)).trans (by simp [h_4, h_19, h_25, hq_33 (1, 2) (by decide) (by decide), hq_33 (1, 7) (by decide) (by decide)])
        have q_59 : σ_31.env 33 = .ag [(.l .own y_5.nodes.length (encL y_5.nodes)), (.l .own y_5.next.length (encL y_5.next))] := (he_36 33 (by decide) (by decide) (by decide) (by decide)).trans (by simp [h_4, h_19, h_25, hq_33 (1, 2) (by decide) (by decide), hq_33 (1, 7) (by decide) (by decide)])
        have q_60 : σ_31.env 34 = .one (.s (.bool y_22)) := (he_36 34 (by decide) (by decide) (by decide) (by decide)).trans (by simp [h_4, h_19, h_25, hq_33 (1, 2) (by decide) (by decide), hq_33 (1, 7) (by decide) (by decide)])
        have q_61 : σ_31.env 35 = .one (.s (.bool (notB y_22))) := (he_36 35 (by decide) (by decide) (by decide) (by decide)).trans (by simp [h_4, h_19, h_25, hq_33 (1, 2) (by decide) (by decide), hq_33 (1, 7) (by decide) (by decide)])
        have q_62 : σ_31.mem (1, 2) = some [(.l .shr aS.nodes.length (encL aS.nodes)), (.l .shr aS.next.length (encL aS.next))] := (hm_38 (1, 2) (by decide) (by decide) (by decide)).trans (by simp [h_4, h_19, h_25, hq_33 (1, 2) (by decide) (by decide), hq_33 (1, 7) (by decide) (by decide)])
        have q_63 : σ_31.mem (1, 7) = some [(.l .own r_26.1.nodes.length (encL r_26.1.nodes)), (.l .own r_26.1.next.length (encL r_26.1.next))] := hx_34.trans (by simp)
        have hn_64 : NoBox [(1, 2), (1, 7)] σ_31.mem := by
          intro key hk
          by_cases hl : 1 < key.1 ∨ bigK ≤ key.2
          · exact hd_37 key hl
          · rw [hm_38 key (by rintro rfl; simp at hk) (by omega) (by omega)]
            simp at hk
            simp [mem0, hk, h_4, h_19, h_25]
        try simp [h_4, h_19, h_25, q_39, q_40, q_41, q_42, q_43, q_44, q_45, q_46, q_47, q_48, q_49, q_50, q_51, q_52, q_53, q_54, q_55, q_56, q_57, q_58, q_59, q_60, q_61, q_62, q_63]
        rcases cond_cases hp with ⟨h_65, hp⟩ | ⟨h_65, hp⟩
        · try simp at h_65
          cases hp
          simp [Goal, FnEnd, h_4, h_19, h_25, q_39, q_40, q_41, q_42, q_43, q_44, q_45, q_46, q_47, q_48, q_49, q_50, q_51, q_52, q_53, q_54, q_55, q_56, q_57, q_58, q_59, q_60, q_61, q_62, q_63, h_65]
        · try simp at h_65
          obtain ⟨y_66, h_67, hp⟩ := bind_some hp
          have c_68 := C23_eq h_67
          simp at c_68
          try simp [h_4, h_19, h_25, q_39, q_40, q_41, q_42, q_43, q_44, q_45, q_46, q_47, q_48, q_49, q_50, q_51, q_52, q_53, q_54, q_55, q_56, q_57, q_58, q_59, q_60, q_61, q_62, q_63, h_65, c_68]
          rcases cond_cases hp with ⟨h_69, hp⟩ | ⟨h_69, hp⟩
          · try simp at h_69
            obtain ⟨r_70, h_71, hp⟩ := bind_some hp
            obtain ⟨lg_72, e_73⟩ := markO_eq h_71
            have mk_74 := mk26 G_26 G_86 G_54 y_13 1 lg_72
            rw [e_73] at mk_74
            try simp [h_4, h_19, h_25, q_39, q_40, q_41, q_42, q_43, q_44, q_45, q_46, q_47, q_48, q_49, q_50, q_51, q_52, q_53, q_54, q_55, q_56, q_57, q_58, q_59, q_60, q_61, q_62, q_63, h_65, h_69]
            refine goal_mark 8 10 47 48 49 26 mk_74 (by simp [h_4, h_19, h_25, q_39, q_40, q_41, q_42, q_43, q_44, q_45, q_46, q_47, q_48, q_49, q_50, q_51, q_52, q_53, q_54, q_55, q_56, q_57, q_58, q_59, q_60, q_61, q_62, q_63, h_65, h_69]) (fun _ => rfl) (by simp [h_4, h_19, h_25, q_39, q_40, q_41, q_42, q_43, q_44, q_45, q_46, q_47, q_48, q_49, q_50, q_51, q_52, q_53, q_54, q_55, q_56, q_57, q_58, q_59, q_60, q_61, q_62, q_63, h_65, h_69]) (WfE.wfE _) (WfE.wfE _) (fun key hkey => by simp [mem0, key_low hkey 1 2 (by decide), key_low hkey 1 7 (by decide), h_4, h_19, h_25, q_39, q_40, q_41, q_42, q_43, q_44, q_45, q_46, q_47, q_48, q_49, q_50, q_51, q_52, q_53, q_54, q_55, q_56, q_57, q_58, q_59, q_60, q_61, q_62, q_63, h_65, h_69, hn_64 key (by simp [key_low hkey 1 2 (by decide), key_low hkey 1 7 (by decide)])]) (by simp) (by simp) (by simp) rfl (by decide) fun σ_75 qq_76 hq_77 hx_78 hk_79 he_80 hd_81 hm_82 => ?_
            have q_83 : σ_75.env 1 = .one (.s (.int .i64 aK)) := (he_80 1 (by decide) (by decide) (by decide) (by decide) (by decide)).trans (by simp [h_4, h_19, h_25, q_39, q_40, q_41, q_42, q_43, q_44, q_45, q_46, q_47, q_48, q_49, q_50, q_51, q_52, q_53, q_54, q_55, q_56, q_57, q_58, q_59, q_60, q_61, q_62, q_63, h_65, h_69, hq_77 (1, 2) (by decide) (by decide), hq_77 (1, 7) (by decide) (by decide)])
            have q_84 : σ_75.env 2 = .one (.ptr (1, 2) 0) := (he_80 2 (by decide) (by decide) (by decide) (by decide) (by decide)).trans (by simp [h_4, h_19, h_25, q_39, q_40, q_41, q_42, q_43, q_44, q_45, q_46, q_47, q_48, q_49, q_50, q_51, q_52, q_53, q_54, q_55, q_56, q_57, q_58, q_59, q_60, q_61, q_62, q_63, h_65, h_69, hq_77 (1, 2) (by decide) (by decide), hq_77 (1, 7) (by decide) (by decide)])
            have q_85 : σ_75.env 4 = .one (.s (.bool false)) := (he_80 4 (by decide) (by decide) (by decide) (by decide) (by decide)).trans (by simp [h_4, h_19, h_25, q_39, q_40, q_41, q_42, q_43, q_44, q_45, q_46, q_47, q_48, q_49, q_50, q_51, q_52, q_53, q_54, q_55, q_56, q_57, q_58, q_59, q_60, q_61, q_62, q_63, h_65, h_69, hq_77 (1, 2) (by decide) (by decide), hq_77 (1, 7) (by decide) (by decide)])
            have q_86 : σ_75.env 5 = .one (.s (.int .i64 y_1)) := (he_80 5 (by decide) (by decide) (by decide) (by decide) (by decide)).trans (by simp [h_4, h_19, h_25, q_39, q_40, q_41, q_42, q_43, q_44, q_45, q_46, q_47, q_48, q_49, q_50, q_51, q_52, q_53, q_54, q_55, q_56, q_57, q_58, q_59, q_60, q_61, q_62, q_63, h_65, h_69, hq_77 (1, 2) (by decide) (by decide), hq_77 (1, 7) (by decide) (by decide)])
            have q_87 : σ_75.env 6 = .one (.l .own y_8.length (encL y_8)) := (he_80 6 (by decide) (by decide) (by decide) (by decide) (by decide)).trans (by simp [h_4, h_19, h_25, q_39, q_40, q_41, q_42, q_43, q_44, q_45, q_46, q_47, q_48, q_49, q_50, q_51, q_52, q_53, q_54, q_55, q_56, q_57, q_58, q_59, q_60, q_61, q_62, q_63, h_65, h_69, hq_77 (1, 2) (by decide) (by decide), hq_77 (1, 7) (by decide) (by decide)])
            have q_88 : σ_75.env 7 = .one (.ptr (1, 7) 0) := (he_80 7 (by decide) (by decide) (by decide) (by decide) (by decide)).trans (by simp [h_4, h_19, h_25, q_39, q_40, q_41, q_42, q_43, q_44, q_45, q_46, q_47, q_48, q_49, q_50, q_51, q_52, q_53, q_54, q_55, q_56, q_57, q_58, q_59, q_60, q_61, q_62, q_63, h_65, h_69, hq_77 (1, 2) (by decide) (by decide), hq_77 (1, 7) (by decide) (by decide)])
            have q_89 : σ_75.env 8 = .one (.l .own r_70.1.length (encL r_70.1)) := hx_78.trans (by simp)
            have q_90 : σ_75.env 9 = .one (.s (.int .i64 r_26.2)) := (he_80 9 (by decide) (by decide) (by decide) (by decide) (by decide)).trans (by simp [h_4, h_19, h_25, q_39, q_40, q_41, q_42, q_43, q_44, q_45, q_46, q_47, q_48, q_49, q_50, q_51, q_52, q_53, q_54, q_55, q_56, q_57, q_58, q_59, q_60, q_61, q_62, q_63, h_65, h_69, hq_77 (1, 2) (by decide) (by decide), hq_77 (1, 7) (by decide) (by decide)])
            have q_91 : σ_75.env 10 = .one (.s (.int .i64 r_70.2)) := hk_79
            have q_92 : σ_75.env 13 = .ag [(.l .shr aS.nodes.length (encL aS.nodes)), (.l .shr aS.next.length (encL aS.next))] := (he_80 13 (by decide) (by decide) (by decide) (by decide) (by decide)).trans (by simp [h_4, h_19, h_25, q_39, q_40, q_41, q_42, q_43, q_44, q_45, q_46, q_47, q_48, q_49, q_50, q_51, q_52, q_53, q_54, q_55, q_56, q_57, q_58, q_59, q_60, q_61, q_62, q_63, h_65, h_69, hq_77 (1, 2) (by decide) (by decide), hq_77 (1, 7) (by decide) (by decide)])
            have q_93 : σ_75.env 14 = .one (.s (.int .i64 1048576)) := (he_80 14 (by decide) (by decide) (by decide) (by decide) (by decide)).trans (by simp [h_4, h_19, h_25, q_39, q_40, q_41, q_42, q_43, q_44, q_45, q_46, q_47, q_48, q_49, q_50, q_51, q_52, q_53, q_54, q_55, q_56, q_57, q_58, q_59, q_60, q_61, q_62, q_63, h_65, h_69, hq_77 (1, 2) (by decide) (by decide), hq_77 (1, 7) (by decide) (by decide)])
            have q_94 : σ_75.env 16 = .one (.s (.int .i64 y_1)) := (he_80 16 (by decide) (by decide) (by decide) (by decide) (by decide)).trans (by simp [h_4, h_19, h_25, q_39, q_40, q_41, q_42, q_43, q_44, q_45, q_46, q_47, q_48, q_49, q_50, q_51, q_52, q_53, q_54, q_55, q_56, q_57, q_58, q_59, q_60, q_61, q_62, q_63, h_65, h_69, hq_77 (1, 2) (by decide) (by decide), hq_77 (1, 7) (by decide) (by decide)])
            have q_95 : σ_75.env 17 = .one (.s (.bool (ltI y_1 0))) := (he_80 17 (by decide) (by decide) (by decide) (by decide) (by decide)).trans (by simp [h_4, h_19, h_25, q_39, q_40, q_41, q_42, q_43, q_44, q_45, q_46, q_47, q_48, q_49, q_50, q_51, q_52, q_53, q_54, q_55, q_56, q_57, q_58, q_59, q_60, q_61, q_62, q_63, h_65, h_69, hq_77 (1, 2) (by decide) (by decide), hq_77 (1, 7) (by decide) (by decide)])
            have q_96 : σ_75.env 18 = .ag [(.l .shr aS.nodes.length (encL aS.nodes)), (.l .shr aS.next.length (encL aS.next))] := (he_80 18 (by decide) (by decide) (by decide) (by decide) (by decide)).trans (by simp [h_4, h_19, h_25, q_39, q_40, q_41, q_42, q_43, q_44, q_45, q_46, q_47, q_48, q_49, q_50, q_51, q_52, q_53, q_54, q_55, q_56, q_57, q_58, q_59, q_60, q_61, q_62, q_63, h_65, h_69, hq_77 (1, 2) (by decide) (by decide), hq_77 (1, 7) (by decide) (by decide)])
            have q_97 : σ_75.env 19 = .ag [(.l .own y_5.nodes.length (encL y_5.nodes)), (.l .own y_5.next.length (encL y_5.next))] := (he_80 19 (by decide) (by decide) (by decide) (by decide) (by decide)).trans (by simp [h_4, h_19, h_25, q_39, q_40, q_41, q_42, q_43, q_44, q_45, q_46, q_47, q_48, q_49, q_50, q_51, q_52, q_53, q_54, q_55, q_56, q_57, q_58, q_59, q_60, q_61, q_62, q_63, h_65, h_69, hq_77 (1, 2) (by decide) (by decide), hq_77 (1, 7) (by decide) (by decide)])
            have q_98 : σ_75.env 20 = .one (.s (.int .i64 aK)) := (he_80 20 (by decide) (by decide) (by decide) (by decide) (by decide)).trans (by simp [h_4, h_19, h_25, q_39, q_40, q_41, q_42, q_43, q_44, q_45, q_46, q_47, q_48, q_49, q_50, q_51, q_52, q_53, q_54, q_55, q_56, q_57, q_58, q_59, q_60, q_61, q_62, q_63, h_65, h_69, hq_77 (1, 2) (by decide) (by decide), hq_77 (1, 7) (by decide) (by decide)])
            have q_99 : σ_75.env 22 = .ag [(.l .shr aS.nodes.length (encL aS.nodes)), (.l .shr aS.next.length (encL aS.next))] := (he_80 22 (by decide) (by decide) (by decide) (by decide) (by decide)).trans (by simp [h_4, h_19, h_25, q_39, q_40, q_41, q_42, q_43, q_44, q_45, q_46, q_47, q_48, q_49, q_50, q_51, q_52, q_53, q_54, q_55, q_56, q_57, q_58, q_59, q_60, q_61, q_62, q_63, h_65, h_69, hq_77 (1, 2) (by decide) (by decide), hq_77 (1, 7) (by decide) (by decide)])
            have q_100 : σ_75.env 25 = .one (.s (.int .i64 aK)) := (he_80 25 (by decide) (by decide) (by decide) (by decide) (by decide)).trans (by simp [h_4, h_19, h_25, q_39, q_40, q_41, q_42, q_43, q_44, q_45, q_46, q_47, q_48, q_49, q_50, q_51, q_52, q_53, q_54, q_55, q_56, q_57, q_58, q_59, q_60, q_61, q_62, q_63, h_65, h_69, hq_77 (1, 2) (by decide) (by decide), hq_77 (1, 7) (by decide) (by decide)])
            have q_101 : σ_75.env 29 = .one (.s (.bool y_16)) := (he_80 29 (by decide) (by decide) (by decide) (by decide) (by decide)).trans (by simp [h_4, h_19, h_25, q_39, q_40, q_41, q_42, q_43, q_44, q_45, q_46, q_47, q_48, q_49, q_50, q_51, q_52, q_53, q_54, q_55, q_56, q_57, q_58, q_59, q_60, q_61, q_62, q_63, h_65, h_69, hq_77 (1, 2) (by decide) (by decide), hq_77 (1, 7) (by decide) (by decide)])
            have q_102 : σ_75.env 30 = .one (.s (.bool (notB y_16))) := (he_80 30 (by decide) (by decide) (by decide) (by decide) (by decide)).trans (by simp [h_4, h_19, h_25, q_39, q_40, q_41, q_42, q_43, q_44, q_45, q_46, q_47, q_48, q_49, q_50, q_51, q_52, q_53, q_54, q_55, q_56, q_57, q_58, q_59, q_60, q_61, q_62, q_63, h_65, h_69, hq_77 (1, 2) (by decide) (by decide), hq_77 (1, 7) (by decide) (by decide)])
            have q_103 : σ_75.env 32 = .ag [(.l .shr aS.nodes.length (encL aS.nodes)), (.l .shr aS.next.length (encL aS.next))] := (he_80 32 (by decide) (by decide) (by decide) (by decide) (by decide)).trans (by simp [h_4, h_19, h_25, q_39, q_40, q_41, q_42, q_43, q_44, q_45, q_46, q_47, q_48, q_49, q_50, q_51, q_52, q_53, q_54, q_55, q_56, q_57, q_58, q_59, q_60, q_61, q_62, q_63, h_65, h_69, hq_77 (1, 2) (by decide) (by decide), hq_77 (1, 7) (by decide) (by decide)])
            have q_104 : σ_75.env 33 = .ag [(.l .own y_5.nodes.length (encL y_5.nodes)), (.l .own y_5.next.length (encL y_5.next))] := (he_80 33 (by decide) (by decide) (by decide) (by decide) (by decide)).trans (by simp [h_4, h_19, h_25, q_39, q_40, q_41, q_42, q_43, q_44, q_45, q_46, q_47, q_48, q_49, q_50, q_51, q_52, q_53, q_54, q_55, q_56, q_57, q_58, q_59, q_60, q_61, q_62, q_63, h_65, h_69, hq_77 (1, 2) (by decide) (by decide), hq_77 (1, 7) (by decide) (by decide)])
            have q_105 : σ_75.env 34 = .one (.s (.bool y_22)) := (he_80 34 (by decide) (by decide) (by decide) (by decide) (by decide)).trans (by simp [h_4, h_19, h_25, q_39, q_40, q_41, q_42, q_43, q_44, q_45, q_46, q_47, q_48, q_49, q_50, q_51, q_52, q_53, q_54, q_55, q_56, q_57, q_58, q_59, q_60, q_61, q_62, q_63, h_65, h_69, hq_77 (1, 2) (by decide) (by decide), hq_77 (1, 7) (by decide) (by decide)])
            have q_106 : σ_75.env 35 = .one (.s (.bool (notB y_22))) := (he_80 35 (by decide) (by decide) (by decide) (by decide) (by decide)).trans (by simp [h_4, h_19, h_25, q_39, q_40, q_41, q_42, q_43, q_44, q_45, q_46, q_47, q_48, q_49, q_50, q_51, q_52, q_53, q_54, q_55, q_56, q_57, q_58, q_59, q_60, q_61, q_62, q_63, h_65, h_69, hq_77 (1, 2) (by decide) (by decide), hq_77 (1, 7) (by decide) (by decide)])
            have q_107 : σ_75.env 39 = .one (.s (.int .i64 r_26.2)) := (he_80 39 (by decide) (by decide) (by decide) (by decide) (by decide)).trans (by simp [h_4, h_19, h_25, q_39, q_40, q_41, q_42, q_43, q_44, q_45, q_46, q_47, q_48, q_49, q_50, q_51, q_52, q_53, q_54, q_55, q_56, q_57, q_58, q_59, q_60, q_61, q_62, q_63, h_65, h_69, hq_77 (1, 2) (by decide) (by decide), hq_77 (1, 7) (by decide) (by decide)])
            have q_108 : σ_75.env 40 = .one (.s (.bool (ltI r_26.2 0))) := (he_80 40 (by decide) (by decide) (by decide) (by decide) (by decide)).trans (by simp [h_4, h_19, h_25, q_39, q_40, q_41, q_42, q_43, q_44, q_45, q_46, q_47, q_48, q_49, q_50, q_51, q_52, q_53, q_54, q_55, q_56, q_57, q_58, q_59, q_60, q_61, q_62, q_63, h_65, h_69, hq_77 (1, 2) (by decide) (by decide), hq_77 (1, 7) (by decide) (by decide)])
            have q_109 : σ_75.env 41 = .one (.s (.bool (ltI r_26.2 0))) := (he_80 41 (by decide) (by decide) (by decide) (by decide) (by decide)).trans (by simp [h_4, h_19, h_25, q_39, q_40, q_41, q_42, q_43, q_44, q_45, q_46, q_47, q_48, q_49, q_50, q_51, q_52, q_53, q_54, q_55, q_56, q_57, q_58, q_59, q_60, q_61, q_62, q_63, h_65, h_69, hq_77 (1, 2) (by decide) (by decide), hq_77 (1, 7) (by decide) (by decide)])
            have q_110 : σ_75.env 44 = .one (.s (.bool y_66)) := (he_80 44 (by decide) (by decide) (by decide) (by decide) (by decide)).trans (by simp [h_4, h_19, h_25, q_39, q_40, q_41, q_42, q_43, q_44, q_45, q_46, q_47, q_48, q_49, q_50, q_51, q_52, q_53, q_54, q_55, q_56, q_57, q_58, q_59, q_60, q_61, q_62, q_63, h_65, h_69, hq_77 (1, 2) (by decide) (by decide), hq_77 (1, 7) (by decide) (by decide)])
            have q_111 : σ_75.env 45 = .one (.s (.bool (notB y_66))) := (he_80 45 (by decide) (by decide) (by decide) (by decide) (by decide)).trans (by simp [h_4, h_19, h_25, q_39, q_40, q_41, q_42, q_43, q_44, q_45, q_46, q_47, q_48, q_49, q_50, q_51, q_52, q_53, q_54, q_55, q_56, q_57, q_58, q_59, q_60, q_61, q_62, q_63, h_65, h_69, hq_77 (1, 2) (by decide) (by decide), hq_77 (1, 7) (by decide) (by decide)])
            have q_112 : σ_75.env 46 = .one (.s (.bool (notB y_66))) := (he_80 46 (by decide) (by decide) (by decide) (by decide) (by decide)).trans (by simp [h_4, h_19, h_25, q_39, q_40, q_41, q_42, q_43, q_44, q_45, q_46, q_47, q_48, q_49, q_50, q_51, q_52, q_53, q_54, q_55, q_56, q_57, q_58, q_59, q_60, q_61, q_62, q_63, h_65, h_69, hq_77 (1, 2) (by decide) (by decide), hq_77 (1, 7) (by decide) (by decide)])
            have q_113 : σ_75.mem (1, 2) = some [(.l .shr aS.nodes.length (encL aS.nodes)), (.l .shr aS.next.length (encL aS.next))] := (hm_82 (1, 2) (by decide) (by decide)).trans (by simp [h_4, h_19, h_25, q_39, q_40, q_41, q_42, q_43, q_44, q_45, q_46, q_47, q_48, q_49, q_50, q_51, q_52, q_53, q_54, q_55, q_56, q_57, q_58, q_59, q_60, q_61, q_62, q_63, h_65, h_69, hq_77 (1, 2) (by decide) (by decide), hq_77 (1, 7) (by decide) (by decide)])
            have q_114 : σ_75.mem (1, 7) = some [(.l .own r_26.1.nodes.length (encL r_26.1.nodes)), (.l .own r_26.1.next.length (encL r_26.1.next))] := (hm_82 (1, 7) (by decide) (by decide)).trans (by simp [h_4, h_19, h_25, q_39, q_40, q_41, q_42, q_43, q_44, q_45, q_46, q_47, q_48, q_49, q_50, q_51, q_52, q_53, q_54, q_55, q_56, q_57, q_58, q_59, q_60, q_61, q_62, q_63, h_65, h_69, hq_77 (1, 2) (by decide) (by decide), hq_77 (1, 7) (by decide) (by decide)])
            have hn_115 : NoBox [(1, 2), (1, 7)] σ_75.mem := by
              intro key hk
              by_cases hl : 1 < key.1 ∨ bigK ≤ key.2
              · exact hd_81 key hl
              · rw [hm_82 key (by omega) (by omega)]
                simp at hk
                simp [mem0, hk, h_4, h_19, h_25, q_39, q_40, q_41, q_42, q_43, q_44, q_45, q_46, q_47, q_48, q_49, q_50, q_51, q_52, q_53, q_54, q_55, q_56, q_57, q_58, q_59, q_60, q_61, q_62, q_63, h_65, h_69, hn_64 key (by simp [hk])]
            obtain ⟨y_116, h_117, hp⟩ := bind_some hp
            have c_118 := C27_eq h_117
            simp at c_118
            try simp [h_4, h_19, h_25, h_65, h_69, q_83, q_84, q_85, q_86, q_87, q_88, q_89, q_90, q_91, q_92, q_93, q_94, q_95, q_96, q_97, q_98, q_99, q_100, q_101, q_102, q_103, q_104, q_105, q_106, q_107, q_108, q_109, q_110, q_111, q_112, q_113, q_114, c_118]
            rcases cond_cases hp with ⟨h_119, hp⟩ | ⟨h_119, hp⟩
            · try simp at h_119
              cases hp
              simp [Goal, FnEnd, h_4, h_19, h_25, h_65, h_69, q_83, q_84, q_85, q_86, q_87, q_88, q_89, q_90, q_91, q_92, q_93, q_94, q_95, q_96, q_97, q_98, q_99, q_100, q_101, q_102, q_103, q_104, q_105, q_106, q_107, q_108, q_109, q_110, q_111, q_112, q_113, q_114, h_119]
            · try simp at h_119
              try simp [h_4, h_19, h_25, h_65, h_69, q_83, q_84, q_85, q_86, q_87, q_88, q_89, q_90, q_91, q_92, q_93, q_94, q_95, q_96, q_97, q_98, q_99, q_100, q_101, q_102, q_103, q_104, q_105, q_106, q_107, q_108, q_109, q_110, q_111, q_112, q_113, q_114, h_119]
              rcases cond_cases hp with ⟨h_120, hp⟩ | ⟨h_120, hp⟩
              · try simp at h_120
                cases hp
                simp [Goal, FnEnd, h_4, h_19, h_25, h_65, h_69, q_83, q_84, q_85, q_86, q_87, q_88, q_89, q_90, q_91, q_92, q_93, q_94, q_95, q_96, q_97, q_98, q_99, q_100, q_101, q_102, q_103, q_104, q_105, q_106, q_107, q_108, q_109, q_110, q_111, q_112, q_113, q_114, h_119, h_120]
              · try simp at h_120
                obtain ⟨y_121, h_122, hp⟩ := bind_some hp
                have c_123 := C21_eq h_122
                simp at c_123
                obtain ⟨y_124, h_125, hp⟩ := bind_some hp
                have c_126 := C22_eq h_125
                simp at c_126
                obtain ⟨y_127, h_128, hp⟩ := bind_some hp
                have c_129 := C23_eq h_128
                simp at c_129
                try simp [h_4, h_19, h_25, h_65, h_69, q_83, q_84, q_85, q_86, q_87, q_88, q_89, q_90, q_91, q_92, q_93, q_94, q_95, q_96, q_97, q_98, q_99, q_100, q_101, q_102, q_103, q_104, q_105, q_106, q_107, q_108, q_109, q_110, q_111, q_112, q_113, q_114, h_119, h_120, c_123, c_126, c_129]
                rcases cond_cases hp with ⟨h_130, hp⟩ | ⟨h_130, hp⟩
                · try simp at h_130
                  obtain ⟨y_131, h_132, hp⟩ := bind_some hp
                  cases Option.some.inj (h_117.symm.trans h_132)
                  cases hp
                  simp [Goal, FnEnd, h_4, h_19, h_25, h_65, h_69, q_83, q_84, q_85, q_86, q_87, q_88, q_89, q_90, q_91, q_92, q_93, q_94, q_95, q_96, q_97, q_98, q_99, q_100, q_101, q_102, q_103, q_104, q_105, q_106, q_107, q_108, q_109, q_110, q_111, q_112, q_113, q_114, h_119, h_120, h_130, c_118]
                · try simp at h_130
                  cases hp
                  simp [Goal, FnEnd, h_4, h_19, h_25, h_65, h_69, q_83, q_84, q_85, q_86, q_87, q_88, q_89, q_90, q_91, q_92, q_93, q_94, q_95, q_96, q_97, q_98, q_99, q_100, q_101, q_102, q_103, q_104, q_105, q_106, q_107, q_108, q_109, q_110, q_111, q_112, q_113, q_114, h_119, h_120, h_130]
          · try simp at h_69
            cases hp
            simp [Goal, FnEnd, h_4, h_19, h_25, q_39, q_40, q_41, q_42, q_43, q_44, q_45, q_46, q_47, q_48, q_49, q_50, q_51, q_52, q_53, q_54, q_55, q_56, q_57, q_58, q_59, q_60, q_61, q_62, q_63, h_65, h_69]
      · try simp at h_25
        cases hp
        simp [Goal, FnEnd, h_4, h_19, h_25]
    · try simp at h_19
      cases hp
      simp [Goal, FnEnd, h_4, h_19]
theorem pc5 : PC Try.prog 5 C5 := pc_of (g := g5) (ctxOK_of [(19, C19), (20, C20), (21, C21), (22, C22), (23, C23), (24, C24), (27, C27)] rfl ⟨pc19, pc20, pc21, pc22, pc23, pc24, pc27, trivial⟩) ⟨Try.f5, Try.func5, by kernel_rfl, by kernel_rfl⟩ fun x y h => w5 h
end Go.Proofs
