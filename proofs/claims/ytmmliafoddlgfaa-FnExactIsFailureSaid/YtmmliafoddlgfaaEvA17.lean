import Derived.Test.YtmmliafoddlgfaaEvA16
set_option linter.unusedSimpArgs false
set_option linter.unusedVariables false
set_option linter.unnecessarySimpa false
namespace Go.Proofs
open Go.Ev
noncomputable def C39 : List AV → Option AV := specP (X := (List ByteArray) × TStmt × THeap × Unit) fun x => impl_Exec x.1 x.2.1 x.2.2.1
theorem C39_eq {vars s h_} {y} (h : impl_Exec vars s h_ = some y) : C39 [av .shr vars, av .shr s, av .shr h_] = some (Res.res y) := specP_eq (X := (List ByteArray) × TStmt × THeap × Unit) (F := fun x => impl_Exec x.1 x.2.1 x.2.2.1) (x := (vars, s, h_, ())) h
noncomputable def g39 : Cfg := { P := Try.prog, take := [(39, 40), (72, 37), (72, 78), (72, 81)], keep := [], gho := [((72, 4), [.thaw (.at 11 0) 1176 1]), ((72, 6), [.thaw (.at 11 0) 1176 1]), ((72, 9), [.thaw (.at 11 0) 1176 1]), ((72, 11), [.thaw (.at 11 0) 1176 1]), ((72, 13), [.thaw (.at 11 1) 1177 1]), ((72, 15), [.thaw (.at 11 1) 1177 1]), ((72, 17), [.thaw (.at 11 0) 1176 1]), ((72, 2000004), [.frz (.at 11 0)]), ((72, 2000006), [.frz (.at 11 0)]), ((72, 2000009), [.frz (.at 11 0)]), ((72, 2000011), [.frz (.at 11 0)]), ((72, 2000013), [.frz (.at 11 1)]), ((72, 2000015), [.frz (.at 11 1)]), ((72, 2000017), [.frz (.at 11 0)])], ctx := [(36, C36), (59, C59), (63, C63), (64, C64), (65, C65), (66, C66), (67, C67), (68, C68), (69, C69), (70, C70), (71, C71), (73, C73), (74, C74)], give := [(72, 80)], octx := [(93, C93)] }
@[simp] theorem g39_P : g39.P = Try.prog := rfl
@[simp] theorem g39_t : g39.take = [(39, 40), (72, 37), (72, 78), (72, 81)] := rfl
@[simp] theorem g39_g : g39.gho = [((72, 4), [.thaw (.at 11 0) 1176 1]), ((72, 6), [.thaw (.at 11 0) 1176 1]), ((72, 9), [.thaw (.at 11 0) 1176 1]), ((72, 11), [.thaw (.at 11 0) 1176 1]), ((72, 13), [.thaw (.at 11 1) 1177 1]), ((72, 15), [.thaw (.at 11 1) 1177 1]), ((72, 17), [.thaw (.at 11 0) 1176 1]), ((72, 2000004), [.frz (.at 11 0)]), ((72, 2000006), [.frz (.at 11 0)]), ((72, 2000009), [.frz (.at 11 0)]), ((72, 2000011), [.frz (.at 11 0)]), ((72, 2000013), [.frz (.at 11 1)]), ((72, 2000015), [.frz (.at 11 1)]), ((72, 2000017), [.frz (.at 11 0)])] := rfl
@[simp] theorem g39_r : g39.ro = [] := rfl
@[simp] theorem g39_w : g39.away = [] ∧ g39.give = [(72, 80)] ∧ g39.octx = [(93, C93)] := by rw [g39]; exact ⟨rfl, rfl, rfl⟩
@[simp] theorem g39_36 : lookN 36 g39.ctx = some C36 := rfl
@[simp] theorem g39_59 : lookN 59 g39.ctx = some C59 := rfl
@[simp] theorem g39_63 : lookN 63 g39.ctx = some C63 := rfl
@[simp] theorem g39_64 : lookN 64 g39.ctx = some C64 := rfl
@[simp] theorem g39_65 : lookN 65 g39.ctx = some C65 := rfl
@[simp] theorem g39_66 : lookN 66 g39.ctx = some C66 := rfl
@[simp] theorem g39_67 : lookN 67 g39.ctx = some C67 := rfl
@[simp] theorem g39_68 : lookN 68 g39.ctx = some C68 := rfl
@[simp] theorem g39_69 : lookN 69 g39.ctx = some C69 := rfl
@[simp] theorem g39_70 : lookN 70 g39.ctx = some C70 := rfl
@[simp] theorem g39_71 : lookN 71 g39.ctx = some C71 := rfl
@[simp] theorem g39_73 : lookN 73 g39.ctx = some C73 := rfl
@[simp] theorem g39_74 : lookN 74 g39.ctx = some C74 := rfl
@[simp] theorem g39_72 : lookN 72 g39.ctx = none := rfl
set_option maxHeartbeats 4000000 in
set_option maxRecDepth 100000 in
theorem w39 {vars s h_} {y} (hp : impl_Exec vars s h_ = some y) : ∃ m, callo g39 0 39 [av .shr vars, av .shr s, av .shr h_] mem0 = some (Res.res y, m) := by
  have G_72 : G72 g39 := ⟨rfl, by kernel_rfl, rfl, fun t => by simp, noAway (fun t => by simp) (by simp) (fun t => by simp), by simp [lookN], fun i => by simp [lookK], by simp [g39, lookK], by simp⟩
  refine start_fn (Try.f39.body.getD .skip) [.cell 6 38, .tmp 7] rfl rfl Try.func39 (by kernel_rfl) (by kernel_rfl) (by simp [Try.ntmps39]) rfl ?_
  unfold impl_Exec at hp
  simp [Try.f39, -k_region, k_regionS (l := [1, 5, 7, 9, 11, 13])]
  obtain ⟨r_1, h_2, hp⟩ := bind_some hp
  refine joinP (J := fun (σ : St) => σ.env 0 = .one (.l .shr vars.length (encL vars)) ∧ σ.env 4 = .one (.ptr (1, 4) 0) ∧ σ.env 5 = .one (.ptr (1, 5) 0) ∧ σ.env 6 = .one (.ptr (1, 6) 0) ∧ σ.env 24 = .one (.s (.bool r_1)) ∧ σ.mem (1, 4) = some [(.s (.int .i64 s.kind)), (.s (.string s.a)), (.s (.string s.b))] ∧ σ.mem (1, 5) = some [(.l .shr h_.vars.length (encL h_.vars)), (.l .shr h_.next.length (encL h_.next))] ∧ σ.mem (1, 6) = some [(.l .own 0 []), (.l .own 0 [])] ∧ Tight (1) σ.mem ∧ NoBox [(1, 4), (1, 5), (1, 6)] σ.mem) ?_ ?_
  · replace hp := h_2
    rw [k_region]
    obtain ⟨y_14, h_15, hp⟩ := bind_some hp
    have c_16 := C59_eq h_15
    simp at c_16
    try simp [-k_region, k_regionS (l := [1, 5, 7, 9, 11, 13]), c_16]
    rcases cond_cases hp with ⟨h_17, hp⟩ | ⟨h_17, hp⟩
    · try simp at h_17
      obtain ⟨y_18, h_19, hp⟩ := bind_some hp
      have c_20 := C36_eq h_19
      simp at c_20
      cases hp
      try simp [-k_region, k_regionS (l := [1, 5, 7, 9, 11, 13]), h_17, c_20]
      refine goal_join ?_
      refine ⟨?_, ?_, ?_, ?_, ?_, ?_, ?_, ?_, (by repeat (first | exact tight_mem0 _ | exact hT.up | exact hT | (simp only [true_and]; done) | refine Tight.upd ?_ (by simp) (by simp))), (by intro k hk; simp at hk; simp [hk, -k_region, k_regionS (l := [1, 5, 7, 9, 11, 13]), h_17, c_20])⟩ <;> simp [restrict_env, restrict_mem, -k_region, k_regionS (l := [1, 5, 7, 9, 11, 13]), h_17, c_20]
    · try simp at h_17
      cases hp
      try simp [-k_region, k_regionS (l := [1, 5, 7, 9, 11, 13]), h_17]
      refine goal_join ?_
      refine ⟨?_, ?_, ?_, ?_, ?_, ?_, ?_, ?_, (by repeat (first | exact tight_mem0 _ | exact hT.up | exact hT | (simp only [true_and]; done) | refine Tight.upd ?_ (by simp) (by simp))), (by intro k hk; simp at hk; simp [hk, -k_region, k_regionS (l := [1, 5, 7, 9, 11, 13]), h_17])⟩ <;> simp [restrict_env, restrict_mem, -k_region, k_regionS (l := [1, 5, 7, 9, 11, 13]), h_17]
  · intro σ_3 hJ
    obtain ⟨q_4, q_5, q_6, q_7, q_8, q_9, q_10, q_11, ht_12, hn_13⟩ := hJ
    try simp [-k_region, k_regionS (l := [1, 5, 7, 9, 11, 13]), q_4, q_5, q_6, q_7, q_8, q_9, q_10, q_11]
    rcases cond_cases hp with ⟨h_21, hp⟩ | ⟨h_21, hp⟩
    · try simp at h_21
      cases hp
      simp [Goal, FnEnd, retR, rsrc, RSrc.val, nodupR, nodup, tupPart, -k_region, k_regionS (l := [1, 5, 7, 9, 11, 13]), q_4, q_5, q_6, q_7, q_8, q_9, q_10, q_11, h_21]
    · try simp at h_21
      obtain ⟨y_22, h_23, hp⟩ := bind_some hp
      have c_24 := C64_eq h_23
      simp at c_24
      obtain ⟨y_25, h_26, hp⟩ := bind_some hp
      have c_27 := C65_eq h_26
      simp at c_27
      obtain ⟨y_28, h_29, hp⟩ := bind_some hp
      have c_30 := C65_eq h_29
      simp at c_30
      obtain ⟨y_31, h_32, hp⟩ := bind_some hp
      have c_33 := C66_eq h_32
      simp at c_33
      try simp [-k_region, k_regionS (l := [1, 5, 7, 9, 11, 13]), q_4, q_5, q_6, q_7, q_8, q_9, q_10, q_11, h_21, c_24, c_27, c_30, c_33]
      obtain ⟨r_34, h_35, hp⟩ := bind_some hp
      refine joinP (J := fun (σ : St) => σ.env 4 = .one (.ptr (1, 4) 0) ∧ σ.env 5 = .one (.ptr (1, 5) 0) ∧ σ.env 6 = .one (.ptr (1, 6) 0) ∧ σ.env 8 = .one (.s (.int .i64 y_22)) ∧ σ.env 9 = .one (.s (.int .i64 y_25)) ∧ σ.env 10 = .one (.s (.int .i64 y_28)) ∧ σ.env 11 = .one (.s (.int .i64 y_31.1)) ∧ σ.env 12 = .one (.s (.bool y_31.2)) ∧ σ.env 48 = .one (.s (.bool r_34)) ∧ σ.mem (1, 4) = some [(.s (.int .i64 s.kind)), (.s (.string s.a)), (.s (.string s.b))] ∧ σ.mem (1, 5) = some [(.l .shr h_.vars.length (encL h_.vars)), (.l .shr h_.next.length (encL h_.next))] ∧ σ.mem (1, 6) = some [(.l .own 0 []), (.l .own 0 [])] ∧ Tight (1) σ.mem ∧ NoBox [(1, 4), (1, 5), (1, 6)] σ.mem) ?_ ?_
      · replace hp := h_35
        rw [k_region]
        obtain ⟨y_51, h_52, hp⟩ := bind_some hp
        have c_53 := C67_eq h_52
        simp at c_53
        try simp [-k_region, k_regionS (l := [1, 5, 7, 9, 11, 13]), q_4, q_5, q_6, q_7, q_8, q_9, q_10, q_11, h_21, c_24, c_27, c_30, c_33, c_53]
        rcases cond_cases hp with ⟨h_54, hp⟩ | ⟨h_54, hp⟩
        · try simp at h_54
          obtain ⟨y_55, h_56, hp⟩ := bind_some hp
          have c_57 := C68_eq h_56
          simp at c_57
          cases hp
          try simp [-k_region, k_regionS (l := [1, 5, 7, 9, 11, 13]), q_4, q_5, q_6, q_7, q_8, q_9, q_10, q_11, h_21, h_54, c_57]
          refine goal_join ?_
          refine ⟨?_, ?_, ?_, ?_, ?_, ?_, ?_, ?_, ?_, ?_, ?_, ?_, (by repeat (first | exact ht_12 | exact tight_mem0 _ | exact hT.up | exact hT | (simp only [q_4, q_5, q_6, q_7, q_8, q_9, q_10, q_11]; done) | refine Tight.upd ?_ (by simp) (by simp))), (by intro k hk; simp at hk; simp [hk, -k_region, k_regionS (l := [1, 5, 7, 9, 11, 13]), q_4, q_5, q_6, q_7, q_8, q_9, q_10, q_11, h_21, h_54, c_57, hn_13 k (by simp [hk])])⟩ <;> simp [restrict_env, restrict_mem, -k_region, k_regionS (l := [1, 5, 7, 9, 11, 13]), q_4, q_5, q_6, q_7, q_8, q_9, q_10, q_11, h_21, h_54, c_57]
        · try simp at h_54
          cases hp
          try simp [-k_region, k_regionS (l := [1, 5, 7, 9, 11, 13]), q_4, q_5, q_6, q_7, q_8, q_9, q_10, q_11, h_21, h_54]
          refine goal_join ?_
          refine ⟨?_, ?_, ?_, ?_, ?_, ?_, ?_, ?_, ?_, ?_, ?_, ?_, (by repeat (first | exact ht_12 | exact tight_mem0 _ | exact hT.up | exact hT | (simp only [q_4, q_5, q_6, q_7, q_8, q_9, q_10, q_11]; done) | refine Tight.upd ?_ (by simp) (by simp))), (by intro k hk; simp at hk; simp [hk, -k_region, k_regionS (l := [1, 5, 7, 9, 11, 13]), q_4, q_5, q_6, q_7, q_8, q_9, q_10, q_11, h_21, h_54, hn_13 k (by simp [hk])])⟩ <;> simp [restrict_env, restrict_mem, -k_region, k_regionS (l := [1, 5, 7, 9, 11, 13]), q_4, q_5, q_6, q_7, q_8, q_9, q_10, q_11, h_21, h_54]
      · intro σ_36 hJ
        obtain ⟨q_37, q_38, q_39, q_40, q_41, q_42, q_43, q_44, q_45, q_46, q_47, q_48, ht_49, hn_50⟩ := hJ
        try simp [-k_region, k_regionS (l := [1, 5, 7, 9, 11, 13]), h_21, q_37, q_38, q_39, q_40, q_41, q_42, q_43, q_44, q_45, q_46, q_47, q_48]
        rcases cond_cases hp with ⟨h_58, hp⟩ | ⟨h_58, hp⟩
        · try simp at h_58
          cases hp
          simp [Goal, FnEnd, retR, rsrc, RSrc.val, nodupR, nodup, tupPart, -k_region, k_regionS (l := [1, 5, 7, 9, 11, 13]), h_21, q_37, q_38, q_39, q_40, q_41, q_42, q_43, q_44, q_45, q_46, q_47, q_48, h_58]
        · try simp at h_58
          try simp [-k_region, k_regionS (l := [1, 5, 7, 9, 11, 13]), h_21, q_37, q_38, q_39, q_40, q_41, q_42, q_43, q_44, q_45, q_46, q_47, q_48, h_58]
          obtain ⟨r_59, h_60, hp⟩ := bind_some hp
          refine joinP (J := fun (σ : St) => σ.env 4 = .one (.ptr (1, 4) 0) ∧ σ.env 5 = .one (.ptr (1, 5) 0) ∧ σ.env 6 = .one (.ptr (1, 6) 0) ∧ σ.env 8 = .one (.s (.int .i64 y_22)) ∧ σ.env 9 = .one (.s (.int .i64 y_25)) ∧ σ.env 10 = .one (.s (.int .i64 y_28)) ∧ σ.env 60 = .one (.s (.bool r_59)) ∧ σ.mem (1, 4) = some [(.s (.int .i64 s.kind)), (.s (.string s.a)), (.s (.string s.b))] ∧ σ.mem (1, 5) = some [(.l .shr h_.vars.length (encL h_.vars)), (.l .shr h_.next.length (encL h_.next))] ∧ σ.mem (1, 6) = some [(.l .own 0 []), (.l .own 0 [])] ∧ Tight (1) σ.mem ∧ NoBox [(1, 4), (1, 5), (1, 6)] σ.mem) ?_ ?_
          · replace hp := h_60
            rw [k_region]
            try simp [-k_region, k_regionS (l := [1, 5, 7, 9, 11, 13]), h_21, q_37, q_38, q_39, q_40, q_41, q_42, q_43, q_44, q_45, q_46, q_47, q_48, h_58]
            rcases cond_cases hp with ⟨h_74, hp⟩ | ⟨h_74, hp⟩
            · try simp at h_74
              cases hp
              try simp [-k_region, k_regionS (l := [1, 5, 7, 9, 11, 13]), h_21, q_37, q_38, q_39, q_40, q_41, q_42, q_43, q_44, q_45, q_46, q_47, q_48, h_58, h_74]
              refine goal_join ?_
              refine ⟨?_, ?_, ?_, ?_, ?_, ?_, ?_, ?_, ?_, ?_, (by repeat (first | exact ht_49 | exact tight_mem0 _ | exact hT.up | exact hT | (simp only [q_37, q_38, q_39, q_40, q_41, q_42, q_43, q_44, q_45, q_46, q_47, q_48]; done) | refine Tight.upd ?_ (by simp) (by simp))), (by intro k hk; simp at hk; simp [hk, -k_region, k_regionS (l := [1, 5, 7, 9, 11, 13]), h_21, q_37, q_38, q_39, q_40, q_41, q_42, q_43, q_44, q_45, q_46, q_47, q_48, h_58, h_74, hn_50 k (by simp [hk])])⟩ <;> simp [restrict_env, restrict_mem, -k_region, k_regionS (l := [1, 5, 7, 9, 11, 13]), h_21, q_37, q_38, q_39, q_40, q_41, q_42, q_43, q_44, q_45, q_46, q_47, q_48, h_58, h_74]
            · try simp at h_74
              cases hp
              try simp [-k_region, k_regionS (l := [1, 5, 7, 9, 11, 13]), h_21, q_37, q_38, q_39, q_40, q_41, q_42, q_43, q_44, q_45, q_46, q_47, q_48, h_58, h_74]
              refine goal_join ?_
              refine ⟨?_, ?_, ?_, ?_, ?_, ?_, ?_, ?_, ?_, ?_, (by repeat (first | exact ht_49 | exact tight_mem0 _ | exact hT.up | exact hT | (simp only [q_37, q_38, q_39, q_40, q_41, q_42, q_43, q_44, q_45, q_46, q_47, q_48]; done) | refine Tight.upd ?_ (by simp) (by simp))), (by intro k hk; simp at hk; simp [hk, -k_region, k_regionS (l := [1, 5, 7, 9, 11, 13]), h_21, q_37, q_38, q_39, q_40, q_41, q_42, q_43, q_44, q_45, q_46, q_47, q_48, h_58, h_74, hn_50 k (by simp [hk])])⟩ <;> simp [restrict_env, restrict_mem, -k_region, k_regionS (l := [1, 5, 7, 9, 11, 13]), h_21, q_37, q_38, q_39, q_40, q_41, q_42, q_43, q_44, q_45, q_46, q_47, q_48, h_58, h_74]
          · intro σ_61 hJ
            obtain ⟨q_62, q_63, q_64, q_65, q_66, q_67, q_68, q_69, q_70, q_71, ht_72, hn_73⟩ := hJ
            try simp [-k_region, k_regionS (l := [1, 5, 7, 9, 11, 13]), h_21, h_58, q_62, q_63, q_64, q_65, q_66, q_67, q_68, q_69, q_70, q_71]
            rcases cond_cases hp with ⟨h_75, hp⟩ | ⟨h_75, hp⟩
            · try simp at h_75
              cases hp
              simp [Goal, FnEnd, retR, rsrc, RSrc.val, nodupR, nodup, tupPart, -k_region, k_regionS (l := [1, 5, 7, 9, 11, 13]), h_21, h_58, q_62, q_63, q_64, q_65, q_66, q_67, q_68, q_69, q_70, q_71, h_75]
            · try simp at h_75
              try simp [-k_region, k_regionS (l := [1, 5, 7, 9, 11, 13]), h_21, h_58, q_62, q_63, q_64, q_65, q_66, q_67, q_68, q_69, q_70, q_71, h_75]
              obtain ⟨r_76, h_77, hp⟩ := bind_some hp
              refine joinP (J := fun (σ : St) => σ.env 4 = .one (.ptr (1, 4) 0) ∧ σ.env 5 = .one (.ptr (1, 5) 0) ∧ σ.env 6 = .one (.ptr (1, 6) 0) ∧ σ.env 8 = .one (.s (.int .i64 y_22)) ∧ σ.env 9 = .one (.s (.int .i64 y_25)) ∧ σ.env 10 = .one (.s (.int .i64 y_28)) ∧ σ.env 67 = .one (.s (.bool r_76)) ∧ σ.mem (1, 4) = some [(.s (.int .i64 s.kind)), (.s (.string s.a)), (.s (.string s.b))] ∧ σ.mem (1, 5) = some [(.l .shr h_.vars.length (encL h_.vars)), (.l .shr h_.next.length (encL h_.next))] ∧ σ.mem (1, 6) = some [(.l .own 0 []), (.l .own 0 [])] ∧ Tight (1) σ.mem ∧ NoBox [(1, 4), (1, 5), (1, 6)] σ.mem) ?_ ?_
              · replace hp := h_77
                rw [k_region]
                try simp [-k_region, k_regionS (l := [1, 5, 7, 9, 11, 13]), h_21, h_58, q_62, q_63, q_64, q_65, q_66, q_67, q_68, q_69, q_70, q_71, h_75]
                rcases cond_cases hp with ⟨h_91, hp⟩ | ⟨h_91, hp⟩
                · try simp at h_91
                  cases hp
                  try simp [-k_region, k_regionS (l := [1, 5, 7, 9, 11, 13]), h_21, h_58, q_62, q_63, q_64, q_65, q_66, q_67, q_68, q_69, q_70, q_71, h_75, h_91]
                  refine goal_join ?_
                  refine ⟨?_, ?_, ?_, ?_, ?_, ?_, ?_, ?_, ?_, ?_, (by repeat (first | exact ht_72 | exact tight_mem0 _ | exact hT.up | exact hT | (simp only [q_62, q_63, q_64, q_65, q_66, q_67, q_68, q_69, q_70, q_71]; done) | refine Tight.upd ?_ (by simp) (by simp))), (by intro k hk; simp at hk; simp [hk, -k_region, k_regionS (l := [1, 5, 7, 9, 11, 13]), h_21, h_58, q_62, q_63, q_64, q_65, q_66, q_67, q_68, q_69, q_70, q_71, h_75, h_91, hn_73 k (by simp [hk])])⟩ <;> simp [restrict_env, restrict_mem, -k_region, k_regionS (l := [1, 5, 7, 9, 11, 13]), h_21, h_58, q_62, q_63, q_64, q_65, q_66, q_67, q_68, q_69, q_70, q_71, h_75, h_91]
                · try simp at h_91
                  cases hp
                  try simp [-k_region, k_regionS (l := [1, 5, 7, 9, 11, 13]), h_21, h_58, q_62, q_63, q_64, q_65, q_66, q_67, q_68, q_69, q_70, q_71, h_75, h_91]
                  refine goal_join ?_
                  refine ⟨?_, ?_, ?_, ?_, ?_, ?_, ?_, ?_, ?_, ?_, (by repeat (first | exact ht_72 | exact tight_mem0 _ | exact hT.up | exact hT | (simp only [q_62, q_63, q_64, q_65, q_66, q_67, q_68, q_69, q_70, q_71]; done) | refine Tight.upd ?_ (by simp) (by simp))), (by intro k hk; simp at hk; simp [hk, -k_region, k_regionS (l := [1, 5, 7, 9, 11, 13]), h_21, h_58, q_62, q_63, q_64, q_65, q_66, q_67, q_68, q_69, q_70, q_71, h_75, h_91, hn_73 k (by simp [hk])])⟩ <;> simp [restrict_env, restrict_mem, -k_region, k_regionS (l := [1, 5, 7, 9, 11, 13]), h_21, h_58, q_62, q_63, q_64, q_65, q_66, q_67, q_68, q_69, q_70, q_71, h_75, h_91]
              · intro σ_78 hJ
                obtain ⟨q_79, q_80, q_81, q_82, q_83, q_84, q_85, q_86, q_87, q_88, ht_89, hn_90⟩ := hJ
                try simp [-k_region, k_regionS (l := [1, 5, 7, 9, 11, 13]), h_21, h_58, h_75, q_79, q_80, q_81, q_82, q_83, q_84, q_85, q_86, q_87, q_88]
                rcases cond_cases hp with ⟨h_92, hp⟩ | ⟨h_92, hp⟩
                · try simp at h_92
                  cases hp
                  simp [Goal, FnEnd, retR, rsrc, RSrc.val, nodupR, nodup, tupPart, -k_region, k_regionS (l := [1, 5, 7, 9, 11, 13]), h_21, h_58, h_75, q_79, q_80, q_81, q_82, q_83, q_84, q_85, q_86, q_87, q_88, h_92]
                · try simp at h_92
                  try simp [-k_region, k_regionS (l := [1, 5, 7, 9, 11, 13]), h_21, h_58, h_75, q_79, q_80, q_81, q_82, q_83, q_84, q_85, q_86, q_87, q_88, h_92]
                  obtain ⟨r_93, h_94, hp⟩ := bind_some hp
                  refine joinP (J := fun (σ : St) => σ.env 4 = .one (.ptr (1, 4) 0) ∧ σ.env 5 = .one (.ptr (1, 5) 0) ∧ σ.env 6 = .one (.ptr (1, 6) 0) ∧ σ.env 8 = .one (.s (.int .i64 y_22)) ∧ σ.env 9 = .one (.s (.int .i64 y_25)) ∧ σ.env 10 = .one (.s (.int .i64 y_28)) ∧ σ.env 78 = .one (.s (.bool r_93)) ∧ σ.mem (1, 4) = some [(.s (.int .i64 s.kind)), (.s (.string s.a)), (.s (.string s.b))] ∧ σ.mem (1, 5) = some [(.l .shr h_.vars.length (encL h_.vars)), (.l .shr h_.next.length (encL h_.next))] ∧ σ.mem (1, 6) = some [(.l .own 0 []), (.l .own 0 [])] ∧ Tight (1) σ.mem ∧ NoBox [(1, 4), (1, 5), (1, 6)] σ.mem) ?_ ?_
                  · replace hp := h_94
                    rw [k_region]
                    try simp [-k_region, k_regionS (l := [1, 5, 7, 9, 11, 13]), h_21, h_58, h_75, q_79, q_80, q_81, q_82, q_83, q_84, q_85, q_86, q_87, q_88, h_92]
                    rcases cond_cases hp with ⟨h_108, hp⟩ | ⟨h_108, hp⟩
                    · try simp at h_108
                      obtain ⟨y_109, h_110, hp⟩ := bind_some hp
                      have c_111 := C69_eq h_110
                      simp at c_111
                      try simp [-k_region, k_regionS (l := [1, 5, 7, 9, 11, 13]), h_21, h_58, h_75, q_79, q_80, q_81, q_82, q_83, q_84, q_85, q_86, q_87, q_88, h_92, h_108, c_111]
                      rcases cond_cases hp with ⟨h_112, hp⟩ | ⟨h_112, hp⟩
                      · try simp at h_112
                        cases hp
                        try simp [-k_region, k_regionS (l := [1, 5, 7, 9, 11, 13]), h_21, h_58, h_75, q_79, q_80, q_81, q_82, q_83, q_84, q_85, q_86, q_87, q_88, h_92, h_108, h_112]
                        refine goal_join ?_
                        refine ⟨?_, ?_, ?_, ?_, ?_, ?_, ?_, ?_, ?_, ?_, (by repeat (first | exact ht_89 | exact tight_mem0 _ | exact hT.up | exact hT | (simp only [q_79, q_80, q_81, q_82, q_83, q_84, q_85, q_86, q_87, q_88]; done) | refine Tight.upd ?_ (by simp) (by simp))), (by intro k hk; simp at hk; simp [hk, -k_region, k_regionS (l := [1, 5, 7, 9, 11, 13]), h_21, h_58, h_75, q_79, q_80, q_81, q_82, q_83, q_84, q_85, q_86, q_87, q_88, h_92, h_108, h_112, hn_90 k (by simp [hk])])⟩ <;> simp [restrict_env, restrict_mem, -k_region, k_regionS (l := [1, 5, 7, 9, 11, 13]), h_21, h_58, h_75, q_79, q_80, q_81, q_82, q_83, q_84, q_85, q_86, q_87, q_88, h_92, h_108, h_112]
                      · try simp at h_112
                        obtain ⟨y_113, h_114, hp⟩ := bind_some hp
                        have c_115 := C70_eq h_114
                        simp at c_115
                        cases hp
                        try simp [-k_region, k_regionS (l := [1, 5, 7, 9, 11, 13]), h_21, h_58, h_75, q_79, q_80, q_81, q_82, q_83, q_84, q_85, q_86, q_87, q_88, h_92, h_108, h_112, c_115]
                        refine goal_join ?_
                        refine ⟨?_, ?_, ?_, ?_, ?_, ?_, ?_, ?_, ?_, ?_, (by repeat (first | exact ht_89 | exact tight_mem0 _ | exact hT.up | exact hT | (simp only [q_79, q_80, q_81, q_82, q_83, q_84, q_85, q_86, q_87, q_88]; done) | refine Tight.upd ?_ (by simp) (by simp))), (by intro k hk; simp at hk; simp [hk, -k_region, k_regionS (l := [1, 5, 7, 9, 11, 13]), h_21, h_58, h_75, q_79, q_80, q_81, q_82, q_83, q_84, q_85, q_86, q_87, q_88, h_92, h_108, h_112, c_115, hn_90 k (by simp [hk])])⟩ <;> simp [restrict_env, restrict_mem, -k_region, k_regionS (l := [1, 5, 7, 9, 11, 13]), h_21, h_58, h_75, q_79, q_80, q_81, q_82, q_83, q_84, q_85, q_86, q_87, q_88, h_92, h_108, h_112, c_115]
                    · try simp at h_108
                      cases hp
                      try simp [-k_region, k_regionS (l := [1, 5, 7, 9, 11, 13]), h_21, h_58, h_75, q_79, q_80, q_81, q_82, q_83, q_84, q_85, q_86, q_87, q_88, h_92, h_108]
                      refine goal_join ?_
                      refine ⟨?_, ?_, ?_, ?_, ?_, ?_, ?_, ?_, ?_, ?_, (by repeat (first | exact ht_89 | exact tight_mem0 _ | exact hT.up | exact hT | (simp only [q_79, q_80, q_81, q_82, q_83, q_84, q_85, q_86, q_87, q_88]; done) | refine Tight.upd ?_ (by simp) (by simp))), (by intro k hk; simp at hk; simp [hk, -k_region, k_regionS (l := [1, 5, 7, 9, 11, 13]), h_21, h_58, h_75, q_79, q_80, q_81, q_82, q_83, q_84, q_85, q_86, q_87, q_88, h_92, h_108, hn_90 k (by simp [hk])])⟩ <;> simp [restrict_env, restrict_mem, -k_region, k_regionS (l := [1, 5, 7, 9, 11, 13]), h_21, h_58, h_75, q_79, q_80, q_81, q_82, q_83, q_84, q_85, q_86, q_87, q_88, h_92, h_108]
                  · intro σ_95 hJ
                    obtain ⟨q_96, q_97, q_98, q_99, q_100, q_101, q_102, q_103, q_104, q_105, ht_106, hn_107⟩ := hJ
                    try simp [-k_region, k_regionS (l := [1, 5, 7, 9, 11, 13]), h_21, h_58, h_75, h_92, q_96, q_97, q_98, q_99, q_100, q_101, q_102, q_103, q_104, q_105]
                    rcases cond_cases hp with ⟨h_116, hp⟩ | ⟨h_116, hp⟩
                    · try simp at h_116
                      cases hp
                      simp [Goal, FnEnd, retR, rsrc, RSrc.val, nodupR, nodup, tupPart, -k_region, k_regionS (l := [1, 5, 7, 9, 11, 13]), h_21, h_58, h_75, h_92, q_96, q_97, q_98, q_99, q_100, q_101, q_102, q_103, q_104, q_105, h_116]
                    · try simp at h_116
                      try simp [-k_region, k_regionS (l := [1, 5, 7, 9, 11, 13]), h_21, h_58, h_75, h_92, q_96, q_97, q_98, q_99, q_100, q_101, q_102, q_103, q_104, q_105, h_116]
                      obtain ⟨r_117, h_118, hp⟩ := bind_some hp
                      refine joinP (J := fun (σ : St) => σ.env 4 = .one (.ptr (1, 4) 0) ∧ σ.env 5 = .one (.ptr (1, 5) 0) ∧ σ.env 6 = .one (.ptr (1, 6) 0) ∧ σ.env 8 = .one (.s (.int .i64 y_22)) ∧ σ.env 9 = .one (.s (.int .i64 y_25)) ∧ σ.env 10 = .one (.s (.int .i64 y_28)) ∧ σ.env 97 = .one (.s (.bool r_117)) ∧ σ.mem (1, 4) = some [(.s (.int .i64 s.kind)), (.s (.string s.a)), (.s (.string s.b))] ∧ σ.mem (1, 5) = some [(.l .shr h_.vars.length (encL h_.vars)), (.l .shr h_.next.length (encL h_.next))] ∧ σ.mem (1, 6) = some [(.l .own 0 []), (.l .own 0 [])] ∧ Tight (1) σ.mem ∧ NoBox [(1, 4), (1, 5), (1, 6)] σ.mem) ?_ ?_
                      · replace hp := h_118
                        rw [k_region]
                        try simp [-k_region, k_regionS (l := [1, 5, 7, 9, 11, 13]), h_21, h_58, h_75, h_92, q_96, q_97, q_98, q_99, q_100, q_101, q_102, q_103, q_104, q_105, h_116]
                        rcases cond_cases hp with ⟨h_132, hp⟩ | ⟨h_132, hp⟩
                        · try simp at h_132
                          obtain ⟨y_133, h_134, hp⟩ := bind_some hp
                          have c_135 := C71_eq h_134
                          simp at c_135
                          obtain ⟨y_136, h_137, hp⟩ := bind_some hp
                          have c_138 := C70_eq h_137
                          simp at c_138
                          cases hp
                          try simp [-k_region, k_regionS (l := [1, 5, 7, 9, 11, 13]), h_21, h_58, h_75, h_92, q_96, q_97, q_98, q_99, q_100, q_101, q_102, q_103, q_104, q_105, h_116, h_132, c_135, c_138]
                          refine goal_join ?_
                          refine ⟨?_, ?_, ?_, ?_, ?_, ?_, ?_, ?_, ?_, ?_, (by repeat (first | exact ht_106 | exact tight_mem0 _ | exact hT.up | exact hT | (simp only [q_96, q_97, q_98, q_99, q_100, q_101, q_102, q_103, q_104, q_105]; done) | refine Tight.upd ?_ (by simp) (by simp))), (by intro k hk; simp at hk; simp [hk, -k_region, k_regionS (l := [1, 5, 7, 9, 11, 13]), h_21, h_58, h_75, h_92, q_96, q_97, q_98, q_99, q_100, q_101, q_102, q_103, q_104, q_105, h_116, h_132, c_135, c_138, hn_107 k (by simp [hk])])⟩ <;> simp [restrict_env, restrict_mem, -k_region, k_regionS (l := [1, 5, 7, 9, 11, 13]), h_21, h_58, h_75, h_92, q_96, q_97, q_98, q_99, q_100, q_101, q_102, q_103, q_104, q_105, h_116, h_132, c_135, c_138]
                        · try simp at h_132
                          cases hp
                          try simp [-k_region, k_regionS (l := [1, 5, 7, 9, 11, 13]), h_21, h_58, h_75, h_92, q_96, q_97, q_98, q_99, q_100, q_101, q_102, q_103, q_104, q_105, h_116, h_132]
                          refine goal_join ?_
                          refine ⟨?_, ?_, ?_, ?_, ?_, ?_, ?_, ?_, ?_, ?_, (by repeat (first | exact ht_106 | exact tight_mem0 _ | exact hT.up | exact hT | (simp only [q_96, q_97, q_98, q_99, q_100, q_101, q_102, q_103, q_104, q_105]; done) | refine Tight.upd ?_ (by simp) (by simp))), (by intro k hk; simp at hk; simp [hk, -k_region, k_regionS (l := [1, 5, 7, 9, 11, 13]), h_21, h_58, h_75, h_92, q_96, q_97, q_98, q_99, q_100, q_101, q_102, q_103, q_104, q_105, h_116, h_132, hn_107 k (by simp [hk])])⟩ <;> simp [restrict_env, restrict_mem, -k_region, k_regionS (l := [1, 5, 7, 9, 11, 13]), h_21, h_58, h_75, h_92, q_96, q_97, q_98, q_99, q_100, q_101, q_102, q_103, q_104, q_105, h_116, h_132]
                      · intro σ_119 hJ
                        obtain ⟨q_120, q_121, q_122, q_123, q_124, q_125, q_126, q_127, q_128, q_129, ht_130, hn_131⟩ := hJ
                        try simp [-k_region, k_regionS (l := [1, 5, 7, 9, 11, 13]), h_21, h_58, h_75, h_92, h_116, q_120, q_121, q_122, q_123, q_124, q_125, q_126, q_127, q_128, q_129]
                        rcases cond_cases hp with ⟨h_139, hp⟩ | ⟨h_139, hp⟩
                        · try simp at h_139
                          cases hp
                          simp [Goal, FnEnd, retR, rsrc, RSrc.val, nodupR, nodup, tupPart, -k_region, k_regionS (l := [1, 5, 7, 9, 11, 13]), h_21, h_58, h_75, h_92, h_116, q_120, q_121, q_122, q_123, q_124, q_125, q_126, q_127, q_128, q_129, h_139]
                        · try simp at h_139
                          obtain ⟨y_140, h_141, hp⟩ := bind_some hp
                          try simp [-k_region, k_regionS (l := [1, 5, 7, 9, 11, 13]), h_21, h_58, h_75, h_92, h_116, q_120, q_121, q_122, q_123, q_124, q_125, q_126, q_127, q_128, q_129, h_139]
                          refine goal_callE [av .shr h_, av .shr s, av .shr y_22, av .shr y_25, av .shr y_28] (fun r => ∃ me_142 : Md, r = av me_142 y_140) (by simp [-k_region, k_regionS (l := [1, 5, 7, 9, 11, 13]), h_21, h_58, h_75, h_92, h_116, q_120, q_121, q_122, q_123, q_124, q_125, q_126, q_127, q_128, q_129, h_139]) (wI72 G_72 (by repeat (first | exact ht_130 | exact tight_mem0 _ | exact hT.up | exact hT | (simp only [q_120, q_121, q_122, q_123, q_124, q_125, q_126, q_127, q_128, q_129]; done) | refine Tight.upd ?_ (by simp) (by simp))) (killB_keys (L := [(1, 4), (1, 5), (1, 6)]) (by intro k hk; simp at hk; simp [hk, -k_region, k_regionS (l := [1, 5, 7, 9, 11, 13]), h_21, h_58, h_75, h_92, h_116, q_120, q_121, q_122, q_123, q_124, q_125, q_126, q_127, q_128, q_129, h_139, hn_131 k (by simp [hk])]) (by simp [-k_region, k_regionS (l := [1, 5, 7, 9, 11, 13]), h_21, h_58, h_75, h_92, h_116, q_120, q_121, q_122, q_123, q_124, q_125, q_126, q_127, q_128, q_129, h_139])) h_141) ?_
                          rintro _ ⟨me_142, rfl⟩
                          have n_143 := hn_131 (1, 13) (by simp)
                          obtain ⟨y_144, h_145, hp⟩ := bind_some hp
                          have c_146 := C73_eq h_145
                          simp at c_146
                          try simp [-k_region, k_regionS (l := [1, 5, 7, 9, 11, 13]), h_21, h_58, h_75, h_92, h_116, q_120, q_121, q_122, q_123, q_124, q_125, q_126, q_127, q_128, q_129, h_139, n_143, c_146]
                          rcases cond_cases hp with ⟨h_147, hp⟩ | ⟨h_147, hp⟩
                          · try simp at h_147
                            cases hp
                            simp [Goal, FnEnd, retR, rsrc, RSrc.val, nodupR, nodup, tupPart, -k_region, k_regionS (l := [1, 5, 7, 9, 11, 13]), h_21, h_58, h_75, h_92, h_116, q_120, q_121, q_122, q_123, q_124, q_125, q_126, q_127, q_128, q_129, h_139, h_147]
                          · try simp at h_147
                            obtain ⟨y_148, h_149, hp⟩ := bind_some hp
                            have c_150 := C74_eq h_149
                            simp at c_150
                            cases hp
                            simp [Goal, FnEnd, retR, rsrc, RSrc.val, nodupR, nodup, tupPart, -k_region, k_regionS (l := [1, 5, 7, 9, 11, 13]), h_21, h_58, h_75, h_92, h_116, q_120, q_121, q_122, q_123, q_124, q_125, q_126, q_127, q_128, q_129, h_139, h_147, c_150]
theorem pc39 : PC Try.prog 39 C39 := pc_of (g := g39) (ctxOK_ofO [(36, C36), (59, C59), (63, C63), (64, C64), (65, C65), (66, C66), (67, C67), (68, C68), (69, C69), (70, C70), (71, C71), (73, C73), (74, C74)] rfl ⟨pc36, pc59, pc63, pc64, pc65, pc66, pc67, pc68, pc69, pc70, pc71, pc73, pc74, trivial⟩ [(93, C93)] rfl ⟨po93, trivial⟩) ⟨Try.f39, Try.func39, by kernel_rfl, by kernel_rfl⟩ fun x y h => w39 h

noncomputable def C22 : List AV → Option AV := specP (X := TProgram × THeap × (List Int) × Unit) fun x => impl_Follow x.1 x.2.1 x.2.2.1
theorem C22_eq {p_ h_ edges} {y} (h : impl_Follow p_ h_ edges = some y) : C22 [av .shr p_, av .shr h_, av .shr edges] = some (Res.res y) := specP_eq (X := TProgram × THeap × (List Int) × Unit) (F := fun x => impl_Follow x.1 x.2.1 x.2.2.1) (x := (p_, h_, edges, ())) h
noncomputable def g22 : Cfg := { P := Try.prog, take := [(22, 54), (22, 56), (22, 72), (22, 81), (22, 84)], keep := [((22, 5), { hd := [2, 3, 6, 9, 29, 30, 31], bx := [12], ex := [2, 6, 9], rt := [6, 7, 8] })], gho := [], ctx := [(35, C35), (36, C36), (37, C37), (38, C38), (39, C39)], away := [(22, 76, 12), (22, 80, 12)] }
@[simp] theorem g22_P : g22.P = Try.prog := rfl
@[simp] theorem g22_t : g22.take = [(22, 54), (22, 56), (22, 72), (22, 81), (22, 84)] := rfl
@[simp] theorem g22_g : g22.gho = [] := rfl
@[simp] theorem g22_r : g22.ro = [] := rfl
@[simp] theorem g22_w : g22.away = [(22, 76, 12), (22, 80, 12)] ∧ g22.give = [] ∧ g22.octx = [] := by rw [g22]; exact ⟨rfl, rfl, rfl⟩
@[simp] theorem g22_wa (d f dst key) : awayB g22 d f dst key = awayL [(22, 76, 12), (22, 80, 12)] d f dst key := rfl
@[simp] theorem g22_wl (d f a key) : lateB g22 d f a key = lateL [(22, 76, 12), (22, 80, 12)] d f a key := rfl
@[simp] theorem g22_35 : lookN 35 g22.ctx = some C35 := rfl
@[simp] theorem g22_36 : lookN 36 g22.ctx = some C36 := rfl
@[simp] theorem g22_37 : lookN 37 g22.ctx = some C37 := rfl
@[simp] theorem g22_38 : lookN 38 g22.ctx = some C38 := rfl
@[simp] theorem g22_39 : lookN 39 g22.ctx = some C39 := rfl
set_option maxHeartbeats 4000000 in
set_option maxRecDepth 100000 in
theorem w22 {p_ h_ edges} {y} (hp : impl_Follow p_ h_ edges = some y) : ∃ m, callo g22 0 22 [av .shr p_, av .shr h_, av .shr edges] mem0 = some (Res.res y, m) := by
  refine start_fn (Try.f22.body.getD .skip) [.cell 6 50, .tmp 7, .tmp 8] rfl rfl Try.func22 (by kernel_rfl) (by kernel_rfl) (by simp [Try.ntmps22]) rfl ?_
  unfold impl_Follow at hp
  obtain ⟨y_1, h_2, hp⟩ := bind_some hp
  have c_3 := C35_eq h_2
  simp at c_3
  simp [Try.f22, c_3]
  rcases cond_cases hp with ⟨h_4, hp⟩ | ⟨h_4, hp⟩
  · try simp at h_4
    obtain ⟨y_5, h_6, hp⟩ := bind_some hp
    have c_7 := C36_eq h_6
    simp at c_7
    try simp [h_4, c_7]
    rcases cond_cases hp with ⟨h_8, hp⟩ | ⟨h_8, hp⟩
    · try simp at h_8
      obtain ⟨y_9, h_10, hp⟩ := bind_some hp
      have c_11 := C37_eq h_10
      simp at c_11
      try simp [h_4, h_8, c_11]
      obtain ⟨r_60, h_61, hp⟩ := bind_some hp
      obtain ⟨I_14, I_14_⟩ : ∃ I : Int × Int × (List Int) × (List Int) → St → Prop, I = (fun (s_12 : Int × Int × (List Int) × (List Int)) (σ : St) => σ.env 2 = .one (.l .shr edges.length (encL edges)) ∧ σ.env 3 = .one (.ptr (1, 3) 0) ∧ σ.env 6 = .one (.ptr (1, 6) 0) ∧ σ.env 9 = .one (.ptr (1, 9) 0) ∧ σ.env 29 = .one (.l .shr edges.length (encL edges)) ∧ σ.env 30 = .one (.s (.int .i64 (edges.length : Int))) ∧ σ.env 31 = .one (.s (.int .i64 s_12.1)) ∧ σ.mem (1, 3) = some [(.l .shr p_.vars.length (encL p_.vars)), (.s (.int .i64 p_.points)), (.l .shr p_.edges.length (encL p_.edges))] ∧ σ.mem (1, 4) = some [(.l .shr h_.vars.length (encL h_.vars)), (.l .shr h_.next.length (encL h_.next))] ∧ σ.mem (1, 6) = some [(.s (.int .i64 0)), (.l .own 0 []), (.l .own 0 [])] ∧ σ.mem (1, 9) = some [(.s (.int .i64 s_12.2.1)), (.l .own s_12.2.2.1.length (encL s_12.2.2.1)), (.l .own s_12.2.2.2.length (encL s_12.2.2.2))] ∧ NoBox [(1, 3), (1, 4), (1, 6), (1, 9)] σ.mem) := ⟨_, rfl⟩
      obtain ⟨X_15, X_15_⟩ : ∃ X : ((Int × Int × Int × (List Int) × (List Int)) ⊕ (Int × (List Int) × (List Int))) → Out → Prop, X = (fun (r_60 : (Int × Int × Int × (List Int) × (List Int)) ⊕ (Int × (List Int) × (List Int))) (out : Out) => Sum.elim (fun r_60 => ∃ σ : St, out = .ret σ ∧ σ.env 6 = .one (.ptr (1, 6) 0) ∧ σ.env 7 = .one (.s (.int .i64 r_60.1)) ∧ σ.env 8 = .one (.s (.int .i64 r_60.2.1)) ∧ σ.mem (1, 3) = some [(.l .shr p_.vars.length (encL p_.vars)), (.s (.int .i64 p_.points)), (.l .shr p_.edges.length (encL p_.edges))] ∧ σ.mem (1, 4) = some [(.l .shr h_.vars.length (encL h_.vars)), (.l .shr h_.next.length (encL h_.next))] ∧ σ.mem (1, 6) = some [(.s (.int .i64 r_60.2.2.1)), (.l .own r_60.2.2.2.1.length (encL r_60.2.2.2.1)), (.l .own r_60.2.2.2.2.length (encL r_60.2.2.2.2))] ∧ σ.mem (1, 9) = some [.dead, .dead, .dead] ∧ NoBox [(1, 3), (1, 4), (1, 6), (1, 9)] σ.mem) (fun r_60 => ∃ σ : St, out = .exit 0 σ ∧ σ.env 2 = .one (.l .shr edges.length (encL edges)) ∧ σ.env 6 = .one (.ptr (1, 6) 0) ∧ σ.env 9 = .one (.ptr (1, 9) 0) ∧ σ.mem (1, 3) = some [(.l .shr p_.vars.length (encL p_.vars)), (.s (.int .i64 p_.points)), (.l .shr p_.edges.length (encL p_.edges))] ∧ σ.mem (1, 4) = some [(.l .shr h_.vars.length (encL h_.vars)), (.l .shr h_.next.length (encL h_.next))] ∧ σ.mem (1, 6) = some [(.s (.int .i64 0)), (.l .own 0 []), (.l .own 0 [])] ∧ σ.mem (1, 9) = some [(.s (.int .i64 r_60.1)), (.l .own r_60.2.1.length (encL r_60.2.1)), (.l .own r_60.2.2.length (encL r_60.2.2))] ∧ NoBox [(1, 3), (1, 4), (1, 6), (1, 9)] σ.mem) r_60) := ⟨_, rfl⟩
      refine loopP ({ hd := [2, 3, 6, 9, 29, 30, 31], bx := [12], ex := [2, 6, 9], rt := [6, 7, 8] }) I_14 X_15 h_61 (by exact rfl) ?_ ?_ ?_
      · rw [I_14_]
        refine ⟨?_, ?_, ?_, ?_, ?_, ?_, ?_, ?_, ?_, ?_, ?_, NoBox.restrict (by intro k hk hb; simp at hk hb; simp [hk, hb, h_4, h_8])⟩ <;> simp [restrict_env, restrict_mem, h_4, h_8]
      · intro s_12 σ_16 a_13 hI hp
        rw [I_14_] at hI
        obtain ⟨q_17, q_18, q_19, q_20, q_21, q_22, q_23, q_24, q_25, q_26, q_27, hn_28⟩ := hI
        try simp [h_4, h_8, q_17, q_18, q_19, q_20, q_21, q_22, q_23, q_24, q_25, q_26, q_27]
        rcases cond_cases hp with ⟨h_29, hp⟩ | ⟨h_29, hp⟩
        · try simp at h_29
          obtain ⟨e_30, h_31, hp⟩ := bind_some hp
          have b_32 := at_lo h_31
          have b_33 := at_hi h_31
          try simp at b_32
          try simp at b_33
          have c_34 := seg_at' h_31 0 1 (by decide) (ds := [.sc (.int .i64 e_30)]) rfl
          try simp at c_34
          obtain ⟨y_35, h_36, hp⟩ := bind_some hp
          have c_37 := C38_eq h_36
          simp at c_37
          try simp [h_4, h_8, q_17, q_18, q_19, q_20, q_21, q_22, q_23, q_24, q_25, q_26, q_27, h_29, b_32, b_33, c_34, c_37]
          rcases cond_cases hp with ⟨h_38, hp⟩ | ⟨h_38, hp⟩
          · try simp at h_38
            obtain ⟨e_39, h_40, hp⟩ := bind_some hp
            have b_41 := at_lo h_40
            have b_42 := at_hi h_40
            try simp at b_41
            try simp at b_42
            have c_43 := seg_at' h_40 0 1 (by decide) (ds := [.sc (.int .i64 e_39.from_)]) rfl
            try simp at c_43
            try simp [h_4, h_8, q_17, q_18, q_19, q_20, q_21, q_22, q_23, q_24, q_25, q_26, q_27, h_29, h_38, b_41, b_42, c_43]
            rcases cond_cases hp with ⟨h_44, hp⟩ | ⟨h_44, hp⟩
            · try simp at h_44
              cases hp
              try simp [h_4, h_8, q_17, q_18, q_19, q_20, q_21, q_22, q_23, q_24, q_25, q_26, q_27, h_29, h_38, h_44]
              refine goal_outR ?_
              rw [X_15_]
              refine ⟨_, rfl, ?_, ?_, ?_, ?_, ?_, ?_, ?_, NoBox.restrict (by intro k hk hb; simp at hk hb; simp [hk, hb, h_4, h_8, q_17, q_18, q_19, q_20, q_21, q_22, q_23, q_24, q_25, q_26, q_27, h_29, h_38, h_44, hn_28 k (by simp [hk, hb])])⟩ <;> simp [restrict_env, restrict_mem, h_4, h_8, q_17, q_18, q_19, q_20, q_21, q_22, q_23, q_24, q_25, q_26, q_27, h_29, h_38, h_44]
            · try simp at h_44
              obtain ⟨e_45, h_46, hp⟩ := bind_some hp
              cases Option.some.inj (h_40.symm.trans h_46)
              have b_47 := at_lo h_40
              have b_48 := at_hi h_40
              try simp at b_47
              try simp at b_48
              have c_49 := seg_at' h_40 2 3 (by decide) (ds := [.sc (.int .i64 e_39.stmt.kind), .sc (.string e_39.stmt.a), .sc (.string e_39.stmt.b)]) rfl
              try simp at c_49
              obtain ⟨y_50, h_51, hp⟩ := bind_some hp
              have c_52 := C39_eq h_51
              simp at c_52
              have n_53 := hn_28 (1, 12) (by simp)
              try simp [h_4, h_8, q_17, q_18, q_19, q_20, q_21, q_22, q_23, q_24, q_25, q_26, q_27, h_29, h_38, h_44, b_47, b_48, c_49, c_52, n_53]
              rcases cond_cases hp with ⟨h_54, hp⟩ | ⟨h_54, hp⟩
              · try simp at h_54
                cases hp
                try simp [h_4, h_8, q_17, q_18, q_19, q_20, q_21, q_22, q_23, q_24, q_25, q_26, q_27, h_29, h_38, h_44, h_54]
                refine goal_outR ?_
                rw [X_15_]
                refine ⟨_, rfl, ?_, ?_, ?_, ?_, ?_, ?_, ?_, NoBox.restrict (by intro k hk hb; simp at hk hb; simp [hk, hb, h_4, h_8, q_17, q_18, q_19, q_20, q_21, q_22, q_23, q_24, q_25, q_26, q_27, h_29, h_38, h_44, h_54, hn_28 k (by simp [hk, hb])])⟩ <;> simp [restrict_env, restrict_mem, h_4, h_8, q_17, q_18, q_19, q_20, q_21, q_22, q_23, q_24, q_25, q_26, q_27, h_29, h_38, h_44, h_54]
              · try simp at h_54
                obtain ⟨e_55, h_56, hp⟩ := bind_some hp
                cases Option.some.inj (h_40.symm.trans h_56)
                have b_57 := at_lo h_40
                have b_58 := at_hi h_40
                try simp at b_57
                try simp at b_58
                have c_59 := seg_at' h_40 1 1 (by decide) (ds := [.sc (.int .i64 e_39.to_)]) rfl
                try simp at c_59
                cases hp
                try simp [h_4, h_8, q_17, q_18, q_19, q_20, q_21, q_22, q_23, q_24, q_25, q_26, q_27, h_29, h_38, h_44, h_54, b_57, b_58, c_59]
                refine goal_next ?_
                rw [I_14_]
                refine ⟨?_, ?_, ?_, ?_, ?_, ?_, ?_, ?_, ?_, ?_, ?_, NoBox.restrict (by intro k hk hb; simp at hk hb; simp [hk, hb, h_4, h_8, q_17, q_18, q_19, q_20, q_21, q_22, q_23, q_24, q_25, q_26, q_27, h_29, h_38, h_44, h_54, b_57, b_58, c_59, hn_28 k (by simp [hk, hb])])⟩ <;> simp [restrict_env, restrict_mem, h_4, h_8, q_17, q_18, q_19, q_20, q_21, q_22, q_23, q_24, q_25, q_26, q_27, h_29, h_38, h_44, h_54, b_57, b_58, c_59]
          · try simp at h_38
            cases hp
            try simp [h_4, h_8, q_17, q_18, q_19, q_20, q_21, q_22, q_23, q_24, q_25, q_26, q_27, h_29, h_38]
            refine goal_outR ?_
            rw [X_15_]
            refine ⟨_, rfl, ?_, ?_, ?_, ?_, ?_, ?_, ?_, NoBox.restrict (by intro k hk hb; simp at hk hb; simp [hk, hb, h_4, h_8, q_17, q_18, q_19, q_20, q_21, q_22, q_23, q_24, q_25, q_26, q_27, h_29, h_38, hn_28 k (by simp [hk, hb])])⟩ <;> simp [restrict_env, restrict_mem, h_4, h_8, q_17, q_18, q_19, q_20, q_21, q_22, q_23, q_24, q_25, q_26, q_27, h_29, h_38]
        · try simp at h_29
          cases hp
          try simp [h_4, h_8, q_17, q_18, q_19, q_20, q_21, q_22, q_23, q_24, q_25, q_26, q_27, h_29]
          refine goal_outX ?_
          rw [X_15_]
          refine ⟨_, rfl, ?_, ?_, ?_, ?_, ?_, ?_, ?_, NoBox.restrict (by intro k hk hb; simp at hk hb; simp [hk, hb, h_4, h_8, q_17, q_18, q_19, q_20, q_21, q_22, q_23, q_24, q_25, q_26, q_27, h_29, hn_28 k (by simp [hk, hb])])⟩ <;> simp [restrict_env, restrict_mem, h_4, h_8, q_17, q_18, q_19, q_20, q_21, q_22, q_23, q_24, q_25, q_26, q_27, h_29]
      · intro out hX
        rw [X_15_] at hX
        rcases r_60 with r_60 | r_60
        · simp only [Sum.elim_inl, Sum.elim_inr] at hX hp
          obtain ⟨σ_62, rfl, q_63, q_64, q_65, q_66, q_67, q_68, q_69, hn_70⟩ := hX
          cases hp
          simp [Goal, FnEnd, retR, rsrc, RSrc.val, nodupR, nodup, tupPart, h_4, h_8, q_63, q_64, q_65, q_66, q_67, q_68, q_69]
        · simp only [Sum.elim_inl, Sum.elim_inr] at hX hp
          obtain ⟨σ_71, rfl, q_72, q_73, q_74, q_75, q_76, q_77, q_78, hn_79⟩ := hX
          cases hp
          simp [Goal, FnEnd, retR, rsrc, RSrc.val, nodupR, nodup, tupPart, h_4, h_8, q_72, q_73, q_74, q_75, q_76, q_77, q_78]
    · try simp at h_8
      cases hp
      simp [Goal, FnEnd, retR, rsrc, RSrc.val, nodupR, nodup, tupPart, h_4, h_8]
  · try simp at h_4
    cases hp
    simp [Goal, FnEnd, retR, rsrc, RSrc.val, nodupR, nodup, tupPart, h_4]
theorem pc22 : PC Try.prog 22 C22 := pc_of (g := g22) (ctxOK_of [(35, C35), (36, C36), (37, C37), (38, C38), (39, C39)] rfl ⟨pc35, pc36, pc37, pc38, pc39, trivial⟩) ⟨Try.f22, Try.func22, by kernel_rfl, by kernel_rfl⟩ fun x y h => w22 h

noncomputable def C23 : List AV → Option AV := specP (X := Int × Unit) fun x => impl_IsError x.1
theorem C23_eq {code} {y} (h : impl_IsError code = some y) : C23 [av .shr code] = some (Res.res y) := specP_eq (X := Int × Unit) (F := fun x => impl_IsError x.1) (x := (code, ())) h
noncomputable def g23 : Cfg := { P := Try.prog, take := [], keep := [], gho := [], ctx := [(38, C38)] }
@[simp] theorem g23_P : g23.P = Try.prog := rfl
@[simp] theorem g23_t : g23.take = [] := rfl
@[simp] theorem g23_g : g23.gho = [] := rfl
@[simp] theorem g23_r : g23.ro = [] := rfl
@[simp] theorem g23_w : g23.away = [] ∧ g23.give = [] ∧ g23.octx = [] := by rw [g23]; exact ⟨rfl, rfl, rfl⟩
@[simp] theorem g23_38 : lookN 38 g23.ctx = some C38 := rfl
set_option maxHeartbeats 4000000 in
set_option maxRecDepth 100000 in
theorem w23 {code} {y} (hp : impl_IsError code = some y) : ∃ m, callo g23 0 23 [av .shr code] mem0 = some (Res.res y, m) := by
  refine start_fn (Try.f23.body.getD .skip) [.tmp 2] rfl rfl Try.func23 (by kernel_rfl) (by kernel_rfl) (by simp [Try.ntmps23]) rfl ?_
  unfold impl_IsError at hp
  obtain ⟨y_1, h_2, hp⟩ := bind_some hp
  have c_3 := C38_eq h_2
  simp at c_3
  cases hp
  simp [Try.f23, Goal, FnEnd, c_3]
theorem pc23 : PC Try.prog 23 C23 := pc_of (g := g23) (ctxOK_of [(38, C38)] rfl ⟨pc38, trivial⟩) ⟨Try.f23, Try.func23, by kernel_rfl, by kernel_rfl⟩ fun x y h => w23 h

noncomputable def C9 : List AV → Option AV := specP (X := TProgram × TFailure × Unit) fun x => impl_IsFailure x.1 x.2.1
theorem C9_eq {p_ f_} {y} (h : impl_IsFailure p_ f_ = some y) : C9 [av .shr p_, av .shr f_] = some (Res.res y) := specP_eq (X := TProgram × TFailure × Unit) (F := fun x => impl_IsFailure x.1 x.2.1) (x := (p_, f_, ())) h
noncomputable def g9 : Cfg := { P := Try.prog, take := [(9, 8)], keep := [], gho := [], ctx := [(22, C22), (23, C23)] }
@[simp] theorem g9_P : g9.P = Try.prog := rfl
@[simp] theorem g9_t : g9.take = [(9, 8)] := rfl
@[simp] theorem g9_g : g9.gho = [] := rfl
@[simp] theorem g9_r : g9.ro = [] := rfl
@[simp] theorem g9_w : g9.away = [] ∧ g9.give = [] ∧ g9.octx = [] := by rw [g9]; exact ⟨rfl, rfl, rfl⟩
@[simp] theorem g9_22 : lookN 22 g9.ctx = some C22 := rfl
@[simp] theorem g9_23 : lookN 23 g9.ctx = some C23 := rfl
set_option maxHeartbeats 4000000 in
set_option maxRecDepth 100000 in
theorem w9 {p_ f_} {y} (hp : impl_IsFailure p_ f_ = some y) : ∃ m, callo g9 0 9 [av .shr p_, av .shr f_] mem0 = some (Res.res y, m) := by
  refine start_fn (Try.f9.body.getD .skip) [.tmp 4] rfl rfl Try.func9 (by kernel_rfl) (by kernel_rfl) (by simp [Try.ntmps9]) rfl ?_
  unfold impl_IsFailure at hp
  obtain ⟨y_1, h_2, hp⟩ := bind_some hp
  have c_3 := C22_eq h_2
  simp at c_3
  simp [Try.f9, c_3]
  rcases cond_cases hp with ⟨h_4, hp⟩ | ⟨h_4, hp⟩
  · try simp at h_4
    try simp [h_4]
    rcases cond_cases hp with ⟨h_5, hp⟩ | ⟨h_5, hp⟩
    · try simp at h_5
      obtain ⟨y_6, h_7, hp⟩ := bind_some hp
      have c_8 := C23_eq h_7
      simp at c_8
      try simp [h_4, h_5, c_8]
      rcases cond_cases hp with ⟨h_9, hp⟩ | ⟨h_9, hp⟩
      · try simp at h_9
        cases hp
        simp [Goal, FnEnd, h_4, h_5, h_9]
      · try simp at h_9
        cases hp
        simp [Goal, FnEnd, h_4, h_5, h_9]
    · try simp at h_5
      cases hp
      simp [Goal, FnEnd, h_4, h_5]
  · try simp at h_4
    cases hp
    simp [Goal, FnEnd, h_4]
theorem pc9 : PC Try.prog 9 C9 := pc_of (g := g9) (ctxOK_of [(22, C22), (23, C23)] rfl ⟨pc22, pc23, trivial⟩) ⟨Try.f9, Try.func9, by kernel_rfl, by kernel_rfl⟩ fun x y h => w9 h

noncomputable def C24 : List AV → Option AV := specP (X := (List ByteArray) × (List ByteArray) × Unit) fun x => laws_eqStringS x.1 x.2.1
theorem C24_eq {a_ b_} {y} (h : laws_eqStringS a_ b_ = some y) : C24 [av .shr a_, av .shr b_] = some (Res.res y) := specP_eq (X := (List ByteArray) × (List ByteArray) × Unit) (F := fun x => laws_eqStringS x.1 x.2.1) (x := (a_, b_, ())) h
noncomputable def g24 : Cfg := { P := Try.prog, take := [], keep := [((24, 4), { hd := [0, 1, 5], bx := [], ex := [], rt := [4] })], gho := [], ctx := [] }
@[simp] theorem g24_P : g24.P = Try.prog := rfl
@[simp] theorem g24_t : g24.take = [] := rfl
@[simp] theorem g24_g : g24.gho = [] := rfl
@[simp] theorem g24_r : g24.ro = [] := rfl
@[simp] theorem g24_w : g24.away = [] ∧ g24.give = [] ∧ g24.octx = [] := by rw [g24]; exact ⟨rfl, rfl, rfl⟩
set_option maxHeartbeats 4000000 in
set_option maxRecDepth 100000 in
theorem w24 {a_ b_} {y} (hp : laws_eqStringS a_ b_ = some y) : ∃ m, callo g24 0 24 [av .shr a_, av .shr b_] mem0 = some (Res.res y, m) := by
  refine start_fn (Try.f24.body.getD .skip) [.tmp 4] rfl rfl Try.func24 (by kernel_rfl) (by kernel_rfl) (by simp [Try.ntmps24]) rfl ?_
  unfold laws_eqStringS at hp
  simp [Try.f24]
  rcases cond_cases hp with ⟨h_1, hp⟩ | ⟨h_1, hp⟩
  · try simp at h_1
    cases hp
    simp [Goal, FnEnd, h_1]
  · try simp at h_1
    try simp [h_1]
    obtain ⟨r_23, h_24, hp⟩ := bind_some hp
    obtain ⟨I_4, I_4_⟩ : ∃ I : Int → St → Prop, I = (fun (s_2 : Int) (σ : St) => σ.env 0 = .one (.l .shr a_.length (encL a_)) ∧ σ.env 1 = .one (.l .shr b_.length (encL b_)) ∧ σ.env 5 = .one (.s (.int .i64 s_2)) ∧ σ.mem = mem0) := ⟨_, rfl⟩
    obtain ⟨X_5, X_5_⟩ : ∃ X : ((Unit) ⊕ (Unit)) → Out → Prop, X = (fun (r_23 : (Unit) ⊕ (Unit)) (out : Out) => Sum.elim (fun r_23 => ∃ σ : St, out = .ret σ ∧ σ.env 4 = .one (.s (.bool false)) ∧ σ.mem = mem0) (fun r_23 => ∃ σ : St, out = .exit 0 σ ∧ σ.mem = mem0) r_23) := ⟨_, rfl⟩
    refine loopP ({ hd := [0, 1, 5], bx := [], ex := [], rt := [4] }) I_4 X_5 h_24 (by exact rfl) ?_ ?_ ?_
    · rw [I_4_]
      refine ⟨?_, ?_, ?_, ?_⟩ <;> simp [restrict_env, restrict_mem, h_1]
    · intro s_2 σ_6 a_3 hI hp
      rw [I_4_] at hI
      obtain ⟨q_7, q_8, q_9, q_10⟩ := hI
      try simp [h_1, q_7, q_8, q_9, q_10]
      rcases cond_cases hp with ⟨h_11, hp⟩ | ⟨h_11, hp⟩
      · try simp at h_11
        obtain ⟨e_12, h_13, hp⟩ := bind_some hp
        have b_14 := at_lo h_13
        have b_15 := at_hi h_13
        try simp at b_14
        try simp at b_15
        have c_16 := seg_at' h_13 0 1 (by decide) (ds := [.sc (.string e_12)]) rfl
        try simp at c_16
        obtain ⟨e_17, h_18, hp⟩ := bind_some hp
        have b_19 := at_lo h_18
        have b_20 := at_hi h_18
        try simp at b_19
        try simp at b_20
        have c_21 := seg_at' h_18 0 1 (by decide) (ds := [.sc (.string e_17)]) rfl
        try simp at c_21
        try simp [h_1, q_7, q_8, q_9, q_10, h_11, b_14, b_15, c_16, b_19, b_20, c_21]
        rcases cond_cases hp with ⟨h_22, hp⟩ | ⟨h_22, hp⟩
        · try simp at h_22
          cases hp
          try simp [h_1, q_7, q_8, q_9, q_10, h_11, h_22]
          refine goal_outR ?_
          rw [X_5_]
          refine ⟨_, rfl, ?_, ?_⟩ <;> simp [restrict_env, restrict_mem, h_1, q_7, q_8, q_9, q_10, h_11, h_22]
        · try simp at h_22
          cases hp
          try simp [h_1, q_7, q_8, q_9, q_10, h_11, h_22]
          refine goal_next ?_
          rw [I_4_]
          refine ⟨?_, ?_, ?_, ?_⟩ <;> simp [restrict_env, restrict_mem, h_1, q_7, q_8, q_9, q_10, h_11, h_22]
      · try simp at h_11
        cases hp
        try simp [h_1, q_7, q_8, q_9, q_10, h_11]
        refine goal_outX ?_
        rw [X_5_]
        exact ⟨_, rfl, by simp [restrict_mem, h_1, q_7, q_8, q_9, q_10, h_11]⟩
    · intro out hX
      rw [X_5_] at hX
      rcases r_23 with r_23 | r_23
      · simp only [Sum.elim_inl, Sum.elim_inr] at hX hp
        obtain ⟨σ_25, rfl, q_26, q_27⟩ := hX
        cases hp
        simp [Goal, FnEnd, h_1, q_26, q_27]
      · simp only [Sum.elim_inl, Sum.elim_inr] at hX hp
        obtain ⟨σ_28, rfl, q_29⟩ := hX
        cases hp
        simp [Goal, FnEnd, h_1, q_29]
theorem pc24 : PC Try.prog 24 C24 := pc_of (g := g24) (ctxOK_of [] rfl trivial) ⟨Try.f24, Try.func24, by kernel_rfl, by kernel_rfl⟩ fun x y h => w24 h

noncomputable def C75 : List AV → Option AV := specP (X := TStmt × TStmt × Unit) fun x => laws_eqStmt x.1 x.2.1
theorem C75_eq {a_ b_} {y} (h : laws_eqStmt a_ b_ = some y) : C75 [av .shr a_, av .shr b_] = some (Res.res y) := specP_eq (X := TStmt × TStmt × Unit) (F := fun x => laws_eqStmt x.1 x.2.1) (x := (a_, b_, ())) h
noncomputable def g75 : Cfg := { P := Try.prog, take := [], keep := [], gho := [], ctx := [] }
@[simp] theorem g75_P : g75.P = Try.prog := rfl
@[simp] theorem g75_t : g75.take = [] := rfl
@[simp] theorem g75_g : g75.gho = [] := rfl
@[simp] theorem g75_r : g75.ro = [] := rfl
@[simp] theorem g75_w : g75.away = [] ∧ g75.give = [] ∧ g75.octx = [] := by rw [g75]; exact ⟨rfl, rfl, rfl⟩
set_option maxHeartbeats 4000000 in
set_option maxRecDepth 100000 in
theorem w75 {a_ b_} {y} (hp : laws_eqStmt a_ b_ = some y) : ∃ m, callo g75 0 75 [av .shr a_, av .shr b_] mem0 = some (Res.res y, m) := by
  refine start_fn (Try.f75.body.getD .skip) [.tmp 4] rfl rfl Try.func75 (by kernel_rfl) (by kernel_rfl) (by simp [Try.ntmps75]) rfl ?_
  unfold laws_eqStmt at hp
  simp [Try.f75]
  rcases cond_cases hp with ⟨h_1, hp⟩ | ⟨h_1, hp⟩
  · try simp at h_1
    cases hp
    simp [Goal, FnEnd, h_1]
  · try simp at h_1
    try simp [h_1]
    rcases cond_cases hp with ⟨h_2, hp⟩ | ⟨h_2, hp⟩
    · try simp at h_2
      cases hp
      simp [Goal, FnEnd, h_1, h_2]
    · try simp at h_2
      try simp [h_1, h_2]
      rcases cond_cases hp with ⟨h_3, hp⟩ | ⟨h_3, hp⟩
      · try simp at h_3
        cases hp
        simp [Goal, FnEnd, h_1, h_2, h_3]
      · try simp at h_3
        cases hp
        simp [Goal, FnEnd, h_1, h_2, h_3]
theorem pc75 : PC Try.prog 75 C75 := pc_of (g := g75) (ctxOK_of [] rfl trivial) ⟨Try.f75, Try.func75, by kernel_rfl, by kernel_rfl⟩ fun x y h => w75 h

noncomputable def C40 : List AV → Option AV := specP (X := TEdge × TEdge × Unit) fun x => laws_eqEdge x.1 x.2.1
theorem C40_eq {a_ b_} {y} (h : laws_eqEdge a_ b_ = some y) : C40 [av .shr a_, av .shr b_] = some (Res.res y) := specP_eq (X := TEdge × TEdge × Unit) (F := fun x => laws_eqEdge x.1 x.2.1) (x := (a_, b_, ())) h
noncomputable def g40 : Cfg := { P := Try.prog, take := [], keep := [], gho := [], ctx := [(75, C75)] }
@[simp] theorem g40_P : g40.P = Try.prog := rfl
@[simp] theorem g40_t : g40.take = [] := rfl
@[simp] theorem g40_g : g40.gho = [] := rfl
@[simp] theorem g40_r : g40.ro = [] := rfl
@[simp] theorem g40_w : g40.away = [] ∧ g40.give = [] ∧ g40.octx = [] := by rw [g40]; exact ⟨rfl, rfl, rfl⟩
@[simp] theorem g40_75 : lookN 75 g40.ctx = some C75 := rfl
set_option maxHeartbeats 4000000 in
set_option maxRecDepth 100000 in
theorem w40 {a_ b_} {y} (hp : laws_eqEdge a_ b_ = some y) : ∃ m, callo g40 0 40 [av .shr a_, av .shr b_] mem0 = some (Res.res y, m) := by
  refine start_fn (Try.f40.body.getD .skip) [.tmp 4] rfl rfl Try.func40 (by kernel_rfl) (by kernel_rfl) (by simp [Try.ntmps40]) rfl ?_
  unfold laws_eqEdge at hp
  simp [Try.f40]
  rcases cond_cases hp with ⟨h_1, hp⟩ | ⟨h_1, hp⟩
  · try simp at h_1
    cases hp
    simp [Goal, FnEnd, h_1]
  · try simp at h_1
    try simp [h_1]
    rcases cond_cases hp with ⟨h_2, hp⟩ | ⟨h_2, hp⟩
    · try simp at h_2
      cases hp
      simp [Goal, FnEnd, h_1, h_2]
    · try simp at h_2
      obtain ⟨y_3, h_4, hp⟩ := bind_some hp
      have c_5 := C75_eq h_4
      simp at c_5
      try simp [h_1, h_2, c_5]
      rcases cond_cases hp with ⟨h_6, hp⟩ | ⟨h_6, hp⟩
      · try simp at h_6
        cases hp
        simp [Goal, FnEnd, h_1, h_2, h_6]
      · try simp at h_6
        cases hp
        simp [Goal, FnEnd, h_1, h_2, h_6]
theorem pc40 : PC Try.prog 40 C40 := pc_of (g := g40) (ctxOK_of [(75, C75)] rfl ⟨pc75, trivial⟩) ⟨Try.f40, Try.func40, by kernel_rfl, by kernel_rfl⟩ fun x y h => w40 h

noncomputable def C25 : List AV → Option AV := specP (X := (List TEdge) × (List TEdge) × Unit) fun x => laws_eqEdgeS x.1 x.2.1
theorem C25_eq {a_ b_} {y} (h : laws_eqEdgeS a_ b_ = some y) : C25 [av .shr a_, av .shr b_] = some (Res.res y) := specP_eq (X := (List TEdge) × (List TEdge) × Unit) (F := fun x => laws_eqEdgeS x.1 x.2.1) (x := (a_, b_, ())) h
noncomputable def g25 : Cfg := { P := Try.prog, take := [], keep := [((25, 4), { hd := [0, 1, 5], bx := [], ex := [], rt := [4] })], gho := [], ctx := [(40, C40)] }
@[simp] theorem g25_P : g25.P = Try.prog := rfl
@[simp] theorem g25_t : g25.take = [] := rfl
@[simp] theorem g25_g : g25.gho = [] := rfl
@[simp] theorem g25_r : g25.ro = [] := rfl
@[simp] theorem g25_w : g25.away = [] ∧ g25.give = [] ∧ g25.octx = [] := by rw [g25]; exact ⟨rfl, rfl, rfl⟩
@[simp] theorem g25_40 : lookN 40 g25.ctx = some C40 := rfl
set_option maxHeartbeats 4000000 in
set_option maxRecDepth 100000 in
theorem w25 {a_ b_} {y} (hp : laws_eqEdgeS a_ b_ = some y) : ∃ m, callo g25 0 25 [av .shr a_, av .shr b_] mem0 = some (Res.res y, m) := by
  refine start_fn (Try.f25.body.getD .skip) [.tmp 4] rfl rfl Try.func25 (by kernel_rfl) (by kernel_rfl) (by simp [Try.ntmps25]) rfl ?_
  unfold laws_eqEdgeS at hp
  simp [Try.f25]
  rcases cond_cases hp with ⟨h_1, hp⟩ | ⟨h_1, hp⟩
  · try simp at h_1
    cases hp
    simp [Goal, FnEnd, h_1]
  · try simp at h_1
    try simp [h_1]
    obtain ⟨r_26, h_27, hp⟩ := bind_some hp
    obtain ⟨I_4, I_4_⟩ : ∃ I : Int → St → Prop, I = (fun (s_2 : Int) (σ : St) => σ.env 0 = .one (.l .shr a_.length (encL a_)) ∧ σ.env 1 = .one (.l .shr b_.length (encL b_)) ∧ σ.env 5 = .one (.s (.int .i64 s_2)) ∧ σ.mem = mem0) := ⟨_, rfl⟩
    obtain ⟨X_5, X_5_⟩ : ∃ X : ((Unit) ⊕ (Unit)) → Out → Prop, X = (fun (r_26 : (Unit) ⊕ (Unit)) (out : Out) => Sum.elim (fun r_26 => ∃ σ : St, out = .ret σ ∧ σ.env 4 = .one (.s (.bool false)) ∧ σ.mem = mem0) (fun r_26 => ∃ σ : St, out = .exit 0 σ ∧ σ.mem = mem0) r_26) := ⟨_, rfl⟩
    refine loopP ({ hd := [0, 1, 5], bx := [], ex := [], rt := [4] }) I_4 X_5 h_27 (by exact rfl) ?_ ?_ ?_
    · rw [I_4_]
      refine ⟨?_, ?_, ?_, ?_⟩ <;> simp [restrict_env, restrict_mem, h_1]
    · intro s_2 σ_6 a_3 hI hp
      rw [I_4_] at hI
      obtain ⟨q_7, q_8, q_9, q_10⟩ := hI
      try simp [h_1, q_7, q_8, q_9, q_10]
      rcases cond_cases hp with ⟨h_11, hp⟩ | ⟨h_11, hp⟩
      · try simp at h_11
        obtain ⟨e_12, h_13, hp⟩ := bind_some hp
        have b_14 := at_lo h_13
        have b_15 := at_hi h_13
        try simp at b_14
        try simp at b_15
        have c_16 := seg_at' h_13 0 5 (by decide) (ds := [.sc (.int .i64 e_12.from_), .sc (.int .i64 e_12.to_), .sc (.int .i64 e_12.stmt.kind), .sc (.string e_12.stmt.a), .sc (.string e_12.stmt.b)]) rfl
        try simp at c_16
        obtain ⟨e_17, h_18, hp⟩ := bind_some hp
        have b_19 := at_lo h_18
        have b_20 := at_hi h_18
        try simp at b_19
        try simp at b_20
        have c_21 := seg_at' h_18 0 5 (by decide) (ds := [.sc (.int .i64 e_17.from_), .sc (.int .i64 e_17.to_), .sc (.int .i64 e_17.stmt.kind), .sc (.string e_17.stmt.a), .sc (.string e_17.stmt.b)]) rfl
        try simp at c_21
        obtain ⟨y_22, h_23, hp⟩ := bind_some hp
        have c_24 := C40_eq h_23
        simp at c_24
        try simp [h_1, q_7, q_8, q_9, q_10, h_11, b_14, b_15, c_16, b_19, b_20, c_21, c_24]
        rcases cond_cases hp with ⟨h_25, hp⟩ | ⟨h_25, hp⟩
        · try simp at h_25
          cases hp
          try simp [h_1, q_7, q_8, q_9, q_10, h_11, h_25]
          refine goal_next ?_
          rw [I_4_]
          refine ⟨?_, ?_, ?_, ?_⟩ <;> simp [restrict_env, restrict_mem, h_1, q_7, q_8, q_9, q_10, h_11, h_25]
        · try simp at h_25
          cases hp
          try simp [h_1, q_7, q_8, q_9, q_10, h_11, h_25]
          refine goal_outR ?_
          rw [X_5_]
          refine ⟨_, rfl, ?_, ?_⟩ <;> simp [restrict_env, restrict_mem, h_1, q_7, q_8, q_9, q_10, h_11, h_25]
      · try simp at h_11
        cases hp
        try simp [h_1, q_7, q_8, q_9, q_10, h_11]
        refine goal_outX ?_
        rw [X_5_]
        exact ⟨_, rfl, by simp [restrict_mem, h_1, q_7, q_8, q_9, q_10, h_11]⟩
    · intro out hX
      rw [X_5_] at hX
      rcases r_26 with r_26 | r_26
      · simp only [Sum.elim_inl, Sum.elim_inr] at hX hp
        obtain ⟨σ_28, rfl, q_29, q_30⟩ := hX
        cases hp
        simp [Goal, FnEnd, h_1, q_29, q_30]
      · simp only [Sum.elim_inl, Sum.elim_inr] at hX hp
        obtain ⟨σ_31, rfl, q_32⟩ := hX
        cases hp
        simp [Goal, FnEnd, h_1, q_32]
theorem pc25 : PC Try.prog 25 C25 := pc_of (g := g25) (ctxOK_of [(40, C40)] rfl ⟨pc40, trivial⟩) ⟨Try.f25, Try.func25, by kernel_rfl, by kernel_rfl⟩ fun x y h => w25 h

noncomputable def C10 : List AV → Option AV := specP (X := TProgram × TProgram × Unit) fun x => laws_eqProgram x.1 x.2.1
theorem C10_eq {a_ b_} {y} (h : laws_eqProgram a_ b_ = some y) : C10 [av .shr a_, av .shr b_] = some (Res.res y) := specP_eq (X := TProgram × TProgram × Unit) (F := fun x => laws_eqProgram x.1 x.2.1) (x := (a_, b_, ())) h
noncomputable def g10 : Cfg := { P := Try.prog, take := [], keep := [], gho := [], ctx := [(24, C24), (25, C25)] }
@[simp] theorem g10_P : g10.P = Try.prog := rfl
@[simp] theorem g10_t : g10.take = [] := rfl
@[simp] theorem g10_g : g10.gho = [] := rfl
@[simp] theorem g10_r : g10.ro = [] := rfl
@[simp] theorem g10_w : g10.away = [] ∧ g10.give = [] ∧ g10.octx = [] := by rw [g10]; exact ⟨rfl, rfl, rfl⟩
@[simp] theorem g10_24 : lookN 24 g10.ctx = some C24 := rfl
@[simp] theorem g10_25 : lookN 25 g10.ctx = some C25 := rfl
set_option maxHeartbeats 4000000 in
set_option maxRecDepth 100000 in
theorem w10 {a_ b_} {y} (hp : laws_eqProgram a_ b_ = some y) : ∃ m, callo g10 0 10 [av .shr a_, av .shr b_] mem0 = some (Res.res y, m) := by
  refine start_fn (Try.f10.body.getD .skip) [.tmp 4] rfl rfl Try.func10 (by kernel_rfl) (by kernel_rfl) (by simp [Try.ntmps10]) rfl ?_
  unfold laws_eqProgram at hp
  obtain ⟨y_1, h_2, hp⟩ := bind_some hp
  have c_3 := C24_eq h_2
  simp at c_3
  simp [Try.f10, c_3]
  rcases cond_cases hp with ⟨h_4, hp⟩ | ⟨h_4, hp⟩
  · try simp at h_4
    try simp [h_4]
    rcases cond_cases hp with ⟨h_5, hp⟩ | ⟨h_5, hp⟩
    · try simp at h_5
      cases hp
      simp [Goal, FnEnd, h_4, h_5]
    · try simp at h_5
      obtain ⟨y_6, h_7, hp⟩ := bind_some hp
      have c_8 := C25_eq h_7
      simp at c_8
      try simp [h_4, h_5, c_8]
      rcases cond_cases hp with ⟨h_9, hp⟩ | ⟨h_9, hp⟩
      · try simp at h_9
        cases hp
        simp [Goal, FnEnd, h_4, h_5, h_9]
      · try simp at h_9
        cases hp
        simp [Goal, FnEnd, h_4, h_5, h_9]
  · try simp at h_4
    cases hp
    simp [Goal, FnEnd, h_4]
theorem pc10 : PC Try.prog 10 C10 := pc_of (g := g10) (ctxOK_of [(24, C24), (25, C25)] rfl ⟨pc24, pc25, trivial⟩) ⟨Try.f10, Try.func10, by kernel_rfl, by kernel_rfl⟩ fun x y h => w10 h
end Go.Proofs


namespace Go.Proofs
open Go.Ev
noncomputable def C27 : List AV → Option AV := specP (X := (List Int) × (List Int) × Unit) fun x => laws_eqIntS x.1 x.2.1
theorem C27_eq {a_ b_} {y} (h : laws_eqIntS a_ b_ = some y) : C27 [av .shr a_, av .shr b_] = some (Res.res y) := specP_eq (X := (List Int) × (List Int) × Unit) (F := fun x => laws_eqIntS x.1 x.2.1) (x := (a_, b_, ())) h
noncomputable def g27 : Cfg := { P := Try.prog, take := [], keep := [((27, 4), { hd := [0, 1, 5], bx := [], ex := [], rt := [4] })], gho := [], ctx := [] }
@[simp] theorem g27_P : g27.P = Try.prog := rfl
@[simp] theorem g27_t : g27.take = [] := rfl
@[simp] theorem g27_g : g27.gho = [] := rfl
@[simp] theorem g27_r : g27.ro = [] := rfl
@[simp] theorem g27_w : g27.away = [] ∧ g27.give = [] ∧ g27.octx = [] := by rw [g27]; exact ⟨rfl, rfl, rfl⟩
set_option maxHeartbeats 4000000 in
set_option maxRecDepth 100000 in
theorem w27 {a_ b_} {y} (hp : laws_eqIntS a_ b_ = some y) : ∃ m, callo g27 0 27 [av .shr a_, av .shr b_] mem0 = some (Res.res y, m) := by
  refine start_fn (Try.f27.body.getD .skip) [.tmp 4] rfl rfl Try.func27 (by kernel_rfl) (by kernel_rfl) (by simp [Try.ntmps27]) rfl ?_
  unfold laws_eqIntS at hp
  simp [Try.f27]
  rcases cond_cases hp with ⟨h_1, hp⟩ | ⟨h_1, hp⟩
  · try simp at h_1
    cases hp
    simp [Goal, FnEnd, h_1]
  · try simp at h_1
    try simp [h_1]
    obtain ⟨r_23, h_24, hp⟩ := bind_some hp
    obtain ⟨I_4, I_4_⟩ : ∃ I : Int → St → Prop, I = (fun (s_2 : Int) (σ : St) => σ.env 0 = .one (.l .shr a_.length (encL a_)) ∧ σ.env 1 = .one (.l .shr b_.length (encL b_)) ∧ σ.env 5 = .one (.s (.int .i64 s_2)) ∧ σ.mem = mem0) := ⟨_, rfl⟩
    obtain ⟨X_5, X_5_⟩ : ∃ X : ((Unit) ⊕ (Unit)) → Out → Prop, X = (fun (r_23 : (Unit) ⊕ (Unit)) (out : Out) => Sum.elim (fun r_23 => ∃ σ : St, out = .ret σ ∧ σ.env 4 = .one (.s (.bool false)) ∧ σ.mem = mem0) (fun r_23 => ∃ σ : St, out = .exit 0 σ ∧ σ.mem = mem0) r_23) := ⟨_, rfl⟩
    refine loopP ({ hd := [0, 1, 5], bx := [], ex := [], rt := [4] }) I_4 X_5 h_24 (by exact rfl) ?_ ?_ ?_
    · rw [I_4_]
      refine ⟨?_, ?_, ?_, ?_⟩ <;> simp [restrict_env, restrict_mem, h_1]
    · intro s_2 σ_6 a_3 hI hp
      rw [I_4_] at hI
      obtain ⟨q_7, q_8, q_9, q_10⟩ := hI
      try simp [h_1, q_7, q_8, q_9, q_10]
      rcases cond_cases hp with ⟨h_11, hp⟩ | ⟨h_11, hp⟩
      · try simp at h_11
        obtain ⟨e_12, h_13, hp⟩ := bind_some hp
        have b_14 := at_lo h_13
        have b_15 := at_hi h_13
        try simp at b_14
        try simp at b_15
        have c_16 := seg_at' h_13 0 1 (by decide) (ds := [.sc (.int .i64 e_12)]) rfl
        try simp at c_16
        obtain ⟨e_17, h_18, hp⟩ := bind_some hp
        have b_19 := at_lo h_18
        have b_20 := at_hi h_18
        try simp at b_19
        try simp at b_20
        have c_21 := seg_at' h_18 0 1 (by decide) (ds := [.sc (.int .i64 e_17)]) rfl
        try simp at c_21
        try simp [h_1, q_7, q_8, q_9, q_10, h_11, b_14, b_15, c_16, b_19, b_20, c_21]
        rcases cond_cases hp with ⟨h_22, hp⟩ | ⟨h_22, hp⟩
        · try simp at h_22
          cases hp
          try simp [h_1, q_7, q_8, q_9, q_10, h_11, h_22]
          refine goal_outR ?_
          rw [X_5_]
          refine ⟨_, rfl, ?_, ?_⟩ <;> simp [restrict_env, restrict_mem, h_1, q_7, q_8, q_9, q_10, h_11, h_22]
        · try simp at h_22
          cases hp
          try simp [h_1, q_7, q_8, q_9, q_10, h_11, h_22]
          refine goal_next ?_
          rw [I_4_]
          refine ⟨?_, ?_, ?_, ?_⟩ <;> simp [restrict_env, restrict_mem, h_1, q_7, q_8, q_9, q_10, h_11, h_22]
      · try simp at h_11
        cases hp
        try simp [h_1, q_7, q_8, q_9, q_10, h_11]
        refine goal_outX ?_
        rw [X_5_]
        exact ⟨_, rfl, by simp [restrict_mem, h_1, q_7, q_8, q_9, q_10, h_11]⟩
    · intro out hX
      rw [X_5_] at hX
      rcases r_23 with r_23 | r_23
      · simp only [Sum.elim_inl, Sum.elim_inr] at hX hp
        obtain ⟨σ_25, rfl, q_26, q_27⟩ := hX
        cases hp
        simp [Goal, FnEnd, h_1, q_26, q_27]
      · simp only [Sum.elim_inl, Sum.elim_inr] at hX hp
        obtain ⟨σ_28, rfl, q_29⟩ := hX
        cases hp
        simp [Goal, FnEnd, h_1, q_29]
theorem pc27 : PC Try.prog 27 C27 := pc_of (g := g27) (ctxOK_of [] rfl trivial) ⟨Try.f27, Try.func27, by kernel_rfl, by kernel_rfl⟩ fun x y h => w27 h

noncomputable def C26 : List AV → Option AV := specP (X := THeap × THeap × Unit) fun x => laws_eqHeap x.1 x.2.1
theorem C26_eq {a_ b_} {y} (h : laws_eqHeap a_ b_ = some y) : C26 [av .shr a_, av .shr b_] = some (Res.res y) := specP_eq (X := THeap × THeap × Unit) (F := fun x => laws_eqHeap x.1 x.2.1) (x := (a_, b_, ())) h
noncomputable def g26 : Cfg := { P := Try.prog, take := [], keep := [], gho := [], ctx := [(27, C27)] }
@[simp] theorem g26_P : g26.P = Try.prog := rfl
@[simp] theorem g26_t : g26.take = [] := rfl
@[simp] theorem g26_g : g26.gho = [] := rfl
@[simp] theorem g26_r : g26.ro = [] := rfl
@[simp] theorem g26_w : g26.away = [] ∧ g26.give = [] ∧ g26.octx = [] := by rw [g26]; exact ⟨rfl, rfl, rfl⟩
@[simp] theorem g26_27 : lookN 27 g26.ctx = some C27 := rfl
set_option maxHeartbeats 4000000 in
set_option maxRecDepth 100000 in
theorem w26 {a_ b_} {y} (hp : laws_eqHeap a_ b_ = some y) : ∃ m, callo g26 0 26 [av .shr a_, av .shr b_] mem0 = some (Res.res y, m) := by
  refine start_fn (Try.f26.body.getD .skip) [.tmp 4] rfl rfl Try.func26 (by kernel_rfl) (by kernel_rfl) (by simp [Try.ntmps26]) rfl ?_
  unfold laws_eqHeap at hp
  obtain ⟨y_1, h_2, hp⟩ := bind_some hp
  have c_3 := C27_eq h_2
  simp at c_3
  simp [Try.f26, c_3]
  rcases cond_cases hp with ⟨h_4, hp⟩ | ⟨h_4, hp⟩
  · try simp at h_4
    obtain ⟨y_5, h_6, hp⟩ := bind_some hp
    have c_7 := C27_eq h_6
    simp at c_7
    try simp [h_4, c_7]
    rcases cond_cases hp with ⟨h_8, hp⟩ | ⟨h_8, hp⟩
    · try simp at h_8
      cases hp
      simp [Goal, FnEnd, h_4, h_8]
    · try simp at h_8
      cases hp
      simp [Goal, FnEnd, h_4, h_8]
  · try simp at h_4
    cases hp
    simp [Goal, FnEnd, h_4]
theorem pc26 : PC Try.prog 26 C26 := pc_of (g := g26) (ctxOK_of [(27, C27)] rfl ⟨pc27, trivial⟩) ⟨Try.f26, Try.func26, by kernel_rfl, by kernel_rfl⟩ fun x y h => w26 h

noncomputable def C11 : List AV → Option AV := specP (X := TFailure × TFailure × Unit) fun x => laws_eqFailure x.1 x.2.1
theorem C11_eq {a_ b_} {y} (h : laws_eqFailure a_ b_ = some y) : C11 [av .shr a_, av .shr b_] = some (Res.res y) := specP_eq (X := TFailure × TFailure × Unit) (F := fun x => laws_eqFailure x.1 x.2.1) (x := (a_, b_, ())) h
noncomputable def g11 : Cfg := { P := Try.prog, take := [], keep := [], gho := [], ctx := [(26, C26), (27, C27)] }
@[simp] theorem g11_P : g11.P = Try.prog := rfl
@[simp] theorem g11_t : g11.take = [] := rfl
@[simp] theorem g11_g : g11.gho = [] := rfl
@[simp] theorem g11_r : g11.ro = [] := rfl
@[simp] theorem g11_w : g11.away = [] ∧ g11.give = [] ∧ g11.octx = [] := by rw [g11]; exact ⟨rfl, rfl, rfl⟩
@[simp] theorem g11_26 : lookN 26 g11.ctx = some C26 := rfl
@[simp] theorem g11_27 : lookN 27 g11.ctx = some C27 := rfl
set_option maxHeartbeats 4000000 in
set_option maxRecDepth 100000 in
theorem w11 {a_ b_} {y} (hp : laws_eqFailure a_ b_ = some y) : ∃ m, callo g11 0 11 [av .shr a_, av .shr b_] mem0 = some (Res.res y, m) := by
  refine start_fn (Try.f11.body.getD .skip) [.tmp 4] rfl rfl Try.func11 (by kernel_rfl) (by kernel_rfl) (by simp [Try.ntmps11]) rfl ?_
  unfold laws_eqFailure at hp
  obtain ⟨y_1, h_2, hp⟩ := bind_some hp
  have c_3 := C26_eq h_2
  simp at c_3
  simp [Try.f11, c_3]
  rcases cond_cases hp with ⟨h_4, hp⟩ | ⟨h_4, hp⟩
  · try simp at h_4
    obtain ⟨y_5, h_6, hp⟩ := bind_some hp
    have c_7 := C27_eq h_6
    simp at c_7
    try simp [h_4, c_7]
    rcases cond_cases hp with ⟨h_8, hp⟩ | ⟨h_8, hp⟩
    · try simp at h_8
      try simp [h_4, h_8]
      rcases cond_cases hp with ⟨h_9, hp⟩ | ⟨h_9, hp⟩
      · try simp at h_9
        cases hp
        simp [Goal, FnEnd, h_4, h_8, h_9]
      · try simp at h_9
        cases hp
        simp [Goal, FnEnd, h_4, h_8, h_9]
    · try simp at h_8
      cases hp
      simp [Goal, FnEnd, h_4, h_8]
  · try simp at h_4
    cases hp
    simp [Goal, FnEnd, h_4]
theorem pc11 : PC Try.prog 11 C11 := pc_of (g := g11) (ctxOK_of [(26, C26), (27, C27)] rfl ⟨pc26, pc27, trivial⟩) ⟨Try.f11, Try.func11, by kernel_rfl, by kernel_rfl⟩ fun x y h => w11 h

noncomputable def C3 : List AV → Option AV := specP (X := TProgram × TFailure × Unit) fun x => laws_FnExactIsFailure x.1 x.2.1
theorem C3_eq {aP aF} {y} (h : laws_FnExactIsFailure aP aF = some y) : C3 [av .shr aP, av .shr aF] = some (Res.res y) := specP_eq (X := TProgram × TFailure × Unit) (F := fun x => laws_FnExactIsFailure x.1 x.2.1) (x := (aP, aF, ())) h
noncomputable def g3 : Cfg := { P := Try.prog, take := [], keep := [], gho := [], ctx := [(4, C4), (5, C5), (6, C6), (7, C7), (8, C8), (9, C9), (10, C10), (11, C11)] }
@[simp] theorem g3_P : g3.P = Try.prog := rfl
@[simp] theorem g3_t : g3.take = [] := rfl
@[simp] theorem g3_g : g3.gho = [] := rfl
@[simp] theorem g3_r : g3.ro = [] := rfl
@[simp] theorem g3_w : g3.away = [] ∧ g3.give = [] ∧ g3.octx = [] := by rw [g3]; exact ⟨rfl, rfl, rfl⟩
@[simp] theorem g3_4 : lookN 4 g3.ctx = some C4 := rfl
@[simp] theorem g3_5 : lookN 5 g3.ctx = some C5 := rfl
@[simp] theorem g3_6 : lookN 6 g3.ctx = some C6 := rfl
@[simp] theorem g3_7 : lookN 7 g3.ctx = some C7 := rfl
@[simp] theorem g3_8 : lookN 8 g3.ctx = some C8 := rfl
@[simp] theorem g3_9 : lookN 9 g3.ctx = some C9 := rfl
@[simp] theorem g3_10 : lookN 10 g3.ctx = some C10 := rfl
@[simp] theorem g3_11 : lookN 11 g3.ctx = some C11 := rfl
set_option maxHeartbeats 4000000 in
set_option maxRecDepth 100000 in
theorem w3 {aP aF} {y} (hp : laws_FnExactIsFailure aP aF = some y) : ∃ m, callo g3 0 3 [av .shr aP, av .shr aF] mem0 = some (Res.res y, m) := by
  refine start_fn (Try.f3.body.getD .skip) [.tmp 4] rfl rfl Try.func3 (by kernel_rfl) (by kernel_rfl) (by simp [Try.ntmps3]) rfl ?_
  unfold laws_FnExactIsFailure at hp
  obtain ⟨y_1, h_2, hp⟩ := bind_some hp
  have c_3 := C4_eq h_2
  simp at c_3
  simp [Try.f3, c_3]
  rcases cond_cases hp with ⟨h_4, hp⟩ | ⟨h_4, hp⟩
  · try simp at h_4
    cases hp
    simp [Goal, FnEnd, h_4]
  · try simp at h_4
    obtain ⟨y_5, h_6, hp⟩ := bind_some hp
    have c_7 := C5_eq h_6
    simp at c_7
    try simp [h_4, c_7]
    rcases cond_cases hp with ⟨h_8, hp⟩ | ⟨h_8, hp⟩
    · try simp at h_8
      cases hp
      simp [Goal, FnEnd, h_4, h_8]
    · try simp at h_8
      obtain ⟨y_9, h_10, hp⟩ := bind_some hp
      have c_11 := C7_eq h_10
      simp at c_11
      obtain ⟨y_12, h_13, hp⟩ := bind_some hp
      have c_14 := C8_eq h_13
      simp at c_14
      obtain ⟨y_15, h_16, hp⟩ := bind_some hp
      have c_17 := C6_eq h_16
      simp at c_17
      obtain ⟨y_18, h_19, hp⟩ := bind_some hp
      cases Option.some.inj (h_10.symm.trans h_19)
      obtain ⟨y_20, h_21, hp⟩ := bind_some hp
      cases Option.some.inj (h_13.symm.trans h_21)
      obtain ⟨y_22, h_23, hp⟩ := bind_some hp
      have c_24 := C9_eq h_23
      simp at c_24
      try simp [h_4, h_8, c_11, c_14, c_17, c_11, c_14, c_24]
      rcases cond_cases hp with ⟨h_25, hp⟩ | ⟨h_25, hp⟩
      · try simp at h_25
        cases hp
        simp [Goal, FnEnd, h_4, h_8, h_25]
      · try simp at h_25
        obtain ⟨y_26, h_27, hp⟩ := bind_some hp
        cases Option.some.inj (h_10.symm.trans h_27)
        obtain ⟨y_28, h_29, hp⟩ := bind_some hp
        have c_30 := C10_eq h_29
        simp at c_30
        try simp [h_4, h_8, h_25, c_11, c_30]
        rcases cond_cases hp with ⟨h_31, hp⟩ | ⟨h_31, hp⟩
        · try simp at h_31
          obtain ⟨y_32, h_33, hp⟩ := bind_some hp
          cases Option.some.inj (h_13.symm.trans h_33)
          obtain ⟨y_34, h_35, hp⟩ := bind_some hp
          have c_36 := C11_eq h_35
          simp at c_36
          try simp [h_4, h_8, h_25, h_31, c_14, c_36]
          rcases cond_cases hp with ⟨h_37, hp⟩ | ⟨h_37, hp⟩
          · try simp at h_37
            cases hp
            simp [Goal, FnEnd, h_4, h_8, h_25, h_31, h_37]
          · try simp at h_37
            cases hp
            simp [Goal, FnEnd, h_4, h_8, h_25, h_31, h_37]
        · try simp at h_31
          cases hp
          simp [Goal, FnEnd, h_4, h_8, h_25, h_31]
theorem pc3 : PC Try.prog 3 C3 := pc_of (g := g3) (ctxOK_of [(4, C4), (5, C5), (6, C6), (7, C7), (8, C8), (9, C9), (10, C10), (11, C11)] rfl ⟨pc4, pc5, pc6, pc7, pc8, pc9, pc10, pc11, trivial⟩) ⟨Try.f3, Try.func3, by kernel_rfl, by kernel_rfl⟩ fun x y h => w3 h
end Go.Proofs

