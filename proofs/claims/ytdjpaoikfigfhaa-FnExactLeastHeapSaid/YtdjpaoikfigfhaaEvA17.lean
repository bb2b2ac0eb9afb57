import Derived.Test.YtdjpaoikfigfhaaEvA16
set_option linter.unusedSimpArgs false
set_option linter.unusedVariables false
set_option linter.unnecessarySimpa false
namespace Go.Proofs
open Go.Ev
noncomputable def C148 : List AV → Option AV := specP (X := THeap × Unit) fun x => impl_Heap_own x.1
theorem C148_eq {h_} {y} (h : impl_Heap_own h_ = some y) : C148 [av .shr h_] = some (Res.res y) := specP_eq (X := THeap × Unit) (F := fun x => impl_Heap_own x.1) (x := (h_, ())) h
noncomputable def g148 : Cfg := { P := Try.prog, take := [], keep := [], gho := [], ctx := [(127, C127)] }
@[simp] theorem g148_P : g148.P = Try.prog := rfl
@[simp] theorem g148_t : g148.take = [] := rfl
@[simp] theorem g148_g : g148.gho = [] := rfl
@[simp] theorem g148_r : g148.ro = [] := rfl
@[simp] theorem g148_w : g148.away = [] := by rw [g148]
@[simp] theorem g148_127 : lookN 127 g148.ctx = some C127 := rfl
set_option maxHeartbeats 4000000 in
set_option maxRecDepth 100000 in
theorem w148 {h_} {y} (hp : impl_Heap_own h_ = some y) : ∃ m, callo g148 0 148 [av .shr h_] mem0 = some (Res.res y, m) := by
  refine start_fn (Try.f148.body.getD .skip) [.cell 2 28] rfl rfl Try.func148 (by kernel_rfl) (by kernel_rfl) (by simp [Try.ntmps148]) rfl ?_
  unfold impl_Heap_own at hp
  obtain ⟨y_1, h_2, hp⟩ := bind_some hp
  have c_3 := C127_eq h_2
  simp at c_3
  obtain ⟨y_4, h_5, hp⟩ := bind_some hp
  have c_6 := C127_eq h_5
  simp at c_6
  cases hp
  simp [Try.f148, Goal, FnEnd, retR, rsrc, RSrc.val, nodupR, nodup, tupPart, c_3, c_6]
theorem pc148 : PC Try.prog 148 C148 := pc_of (g := g148) (ctxOK_of [(127, C127)] rfl ⟨pc127, trivial⟩) ⟨Try.f148, Try.func148, by kernel_rfl, by kernel_rfl⟩ fun x y h => w148 h

noncomputable def C140 : List AV → Option AV := specP (X := Int × Int × Unit) fun x => impl_SmallHeaps x.1 x.2.1
theorem C140_eq {vars cells} {y} (h : impl_SmallHeaps vars cells = some y) : C140 [av .shr vars, av .shr cells] = some (Res.res y) := specP_eq (X := Int × Int × Unit) (F := fun x => impl_SmallHeaps x.1 x.2.1) (x := (vars, cells, ())) h
noncomputable def g140 : Cfg := { P := Try.prog, take := [(140, 48), (140, 56)], keep := [((140, 5), { hd := [0, 5, 22, 23], bx := [11], ex := [5], rt := [4] }), ((140, 8), { hd := [0, 5, 6, 22, 23, 28, 29, 30], bx := [11], ex := [0, 5, 22, 23], rt := [4] }), ((140, 11), { hd := [0, 5, 6, 8, 22, 23, 28, 29, 30, 36, 37, 38], bx := [11], ex := [0, 5, 6, 22, 23, 28, 29, 30], rt := [4] })], gho := [], ctx := [(122, C122), (147, C147), (148, C148), (183, C183)] }
@[simp] theorem g140_P : g140.P = Try.prog := rfl
@[simp] theorem g140_t : g140.take = [(140, 48), (140, 56)] := rfl
@[simp] theorem g140_g : g140.gho = [] := rfl
@[simp] theorem g140_r : g140.ro = [] := rfl
@[simp] theorem g140_w : g140.away = [] := by rw [g140]
@[simp] theorem g140_122 : lookN 122 g140.ctx = some C122 := rfl
@[simp] theorem g140_147 : lookN 147 g140.ctx = some C147 := rfl
@[simp] theorem g140_148 : lookN 148 g140.ctx = some C148 := rfl
@[simp] theorem g140_183 : lookN 183 g140.ctx = some C183 := rfl
set_option maxHeartbeats 4000000 in
set_option maxRecDepth 100000 in
theorem w140 {vars cells} {y} (hp : impl_SmallHeaps vars cells = some y) : ∃ m, callo g140 0 140 [av .shr vars, av .shr cells] mem0 = some (Res.res y, m) := by
  refine start_fn (Try.f140.body.getD .skip) [.tmp 4] rfl rfl Try.func140 (by kernel_rfl) (by kernel_rfl) (by simp [Try.ntmps140]) rfl ?_
  unfold impl_SmallHeaps at hp
  obtain ⟨y_1, h_2, hp⟩ := bind_some hp
  have c_3 := C122_eq h_2
  simp at c_3
  simp [Try.f140, c_3]
  rcases cond_cases hp with ⟨h_4, hp⟩ | ⟨h_4, hp⟩
  · try simp at h_4
    obtain ⟨y_5, h_6, hp⟩ := bind_some hp
    have c_7 := C122_eq h_6
    simp at c_7
    try simp [h_4, c_7]
    rcases cond_cases hp with ⟨h_8, hp⟩ | ⟨h_8, hp⟩
    · try simp at h_8
      try simp [h_4, h_8]
      obtain ⟨r_100, h_101, hp⟩ := bind_some hp
      obtain ⟨I_11, I_11_⟩ : ∃ I : (List THeap) × Int → St → Prop, I = (fun (s_9 : (List THeap) × Int) (σ : St) => σ.env 0 = .one (.s (.int .i64 vars)) ∧ σ.env 5 = .one (.l .own s_9.1.length (encL s_9.1)) ∧ σ.env 22 = .one (.s (.int .i64 (addI cells 1))) ∧ σ.env 23 = .one (.s (.int .i64 s_9.2)) ∧ NoBox [] σ.mem) := ⟨_, rfl⟩
      obtain ⟨X_12, X_12_⟩ : ∃ X : (List THeap) → Out → Prop, X = (fun (r_100 : (List THeap)) (out : Out) => ∃ σ : St, out = .exit 0 σ ∧ σ.env 5 = .one (.l .own r_100.length (encL r_100)) ∧ NoBox [] σ.mem) := ⟨_, rfl⟩
      refine loopP ({ hd := [0, 5, 22, 23], bx := [11], ex := [5], rt := [4] }) I_11 X_12 h_101 (by exact rfl) ?_ ?_ ?_
      · rw [I_11_]
        refine ⟨?_, ?_, ?_, ?_, NoBox.restrict (by intro k hk hb; simp at hk hb; simp [hk, hb, h_4, h_8])⟩ <;> simp [restrict_env, restrict_mem, h_4, h_8]
      · intro s_9 σ_13 a_10 hI hp
        rw [I_11_] at hI
        obtain ⟨q_14, q_15, q_16, q_17, hn_18⟩ := hI
        try simp [h_4, h_8, q_14, q_15, q_16, q_17]
        rcases cond_cases hp with ⟨h_19, hp⟩ | ⟨h_19, hp⟩
        · try simp at h_19
          obtain ⟨y_20, h_21, hp⟩ := bind_some hp
          have c_22 := C183_eq h_21
          simp at c_22
          try simp [h_4, h_8, q_14, q_15, q_16, q_17, h_19, c_22]
          obtain ⟨r_92, h_93, hp⟩ := bind_some hp
          obtain ⟨I_25, I_25_⟩ : ∃ I : (List THeap) × Int → St → Prop, I = (fun (s_23 : (List THeap) × Int) (σ : St) => σ.env 0 = .one (.s (.int .i64 vars)) ∧ σ.env 5 = .one (.l .own s_23.1.length (encL s_23.1)) ∧ σ.env 6 = .one (.s (.int .i64 s_9.2)) ∧ σ.env 22 = .one (.s (.int .i64 (addI cells 1))) ∧ σ.env 23 = .one (.s (.int .i64 s_9.2)) ∧ σ.env 28 = .one (.l .own y_20.length (encL y_20)) ∧ σ.env 29 = .one (.s (.int .i64 (y_20.length : Int))) ∧ σ.env 30 = .one (.s (.int .i64 s_23.2)) ∧ NoBox [] σ.mem) := ⟨_, rfl⟩
          obtain ⟨X_26, X_26_⟩ : ∃ X : (List THeap) → Out → Prop, X = (fun (r_92 : (List THeap)) (out : Out) => ∃ σ : St, out = .exit 2 σ ∧ σ.env 0 = .one (.s (.int .i64 vars)) ∧ σ.env 5 = .one (.l .own r_92.length (encL r_92)) ∧ σ.env 22 = .one (.s (.int .i64 (addI cells 1))) ∧ σ.env 23 = .one (.s (.int .i64 s_9.2)) ∧ NoBox [] σ.mem) := ⟨_, rfl⟩
          refine loopP ({ hd := [0, 5, 6, 22, 23, 28, 29, 30], bx := [11], ex := [0, 5, 22, 23], rt := [4] }) I_25 X_26 h_93 (by exact rfl) ?_ ?_ ?_
          · rw [I_25_]
            refine ⟨?_, ?_, ?_, ?_, ?_, ?_, ?_, ?_, NoBox.restrict (by intro k hk hb; simp at hk hb; simp [hk, hb, h_4, h_8, q_14, q_15, q_16, q_17, h_19, hn_18 k (by simp [hk, hb])])⟩ <;> simp [restrict_env, restrict_mem, h_4, h_8, q_14, q_15, q_16, q_17, h_19]
          · intro s_23 σ_27 a_24 hI hp
            rw [I_25_] at hI
            obtain ⟨q_28, q_29, q_30, q_31, q_32, q_33, q_34, q_35, hn_36⟩ := hI
            try simp [h_4, h_8, h_19, q_28, q_29, q_30, q_31, q_32, q_33, q_34, q_35]
            rcases cond_cases hp with ⟨h_37, hp⟩ | ⟨h_37, hp⟩
            · try simp at h_37
              obtain ⟨e_38, h_39, hp⟩ := bind_some hp
              have b_40 := at_lo h_39
              have b_41 := at_hi h_39
              try simp at b_40
              try simp at b_41
              have c_42 := seg_at' h_39 0 1 (by decide) (ds := [.sl e_38.length (encL e_38)]) rfl
              try simp at c_42
              obtain ⟨y_43, h_44, hp⟩ := bind_some hp
              have c_45 := C183_eq h_44
              simp at c_45
              try simp [h_4, h_8, h_19, q_28, q_29, q_30, q_31, q_32, q_33, q_34, q_35, h_37, b_40, b_41, c_42, c_45]
              obtain ⟨r_80, h_81, hp⟩ := bind_some hp
              obtain ⟨I_48, I_48_⟩ : ∃ I : (List THeap) × Int → St → Prop, I = (fun (s_46 : (List THeap) × Int) (σ : St) => σ.env 0 = .one (.s (.int .i64 vars)) ∧ σ.env 5 = .one (.l .own s_46.1.length (encL s_46.1)) ∧ σ.env 6 = .one (.s (.int .i64 s_9.2)) ∧ σ.env 8 = .one (.l .bor e_38.length (encL e_38)) ∧ σ.env 22 = .one (.s (.int .i64 (addI cells 1))) ∧ σ.env 23 = .one (.s (.int .i64 s_9.2)) ∧ σ.env 28 = .one (.l .own y_20.length (encL y_20)) ∧ σ.env 29 = .one (.s (.int .i64 (y_20.length : Int))) ∧ σ.env 30 = .one (.s (.int .i64 s_23.2)) ∧ σ.env 36 = .one (.l .own y_43.length (encL y_43)) ∧ σ.env 37 = .one (.s (.int .i64 (y_43.length : Int))) ∧ σ.env 38 = .one (.s (.int .i64 s_46.2)) ∧ NoBox [] σ.mem) := ⟨_, rfl⟩
              obtain ⟨X_49, X_49_⟩ : ∃ X : (List THeap) → Out → Prop, X = (fun (r_80 : (List THeap)) (out : Out) => ∃ σ : St, out = .exit 4 σ ∧ σ.env 0 = .one (.s (.int .i64 vars)) ∧ σ.env 5 = .one (.l .own r_80.length (encL r_80)) ∧ σ.env 6 = .one (.s (.int .i64 s_9.2)) ∧ σ.env 22 = .one (.s (.int .i64 (addI cells 1))) ∧ σ.env 23 = .one (.s (.int .i64 s_9.2)) ∧ σ.env 28 = .one (.l .own y_20.length (encL y_20)) ∧ σ.env 29 = .one (.s (.int .i64 (y_20.length : Int))) ∧ σ.env 30 = .one (.s (.int .i64 s_23.2)) ∧ NoBox [] σ.mem) := ⟨_, rfl⟩
              refine loopP ({ hd := [0, 5, 6, 8, 22, 23, 28, 29, 30, 36, 37, 38], bx := [11], ex := [0, 5, 6, 22, 23, 28, 29, 30], rt := [4] }) I_48 X_49 h_81 (by exact rfl) ?_ ?_ ?_
              · rw [I_48_]
                refine ⟨?_, ?_, ?_, ?_, ?_, ?_, ?_, ?_, ?_, ?_, ?_, ?_, NoBox.restrict (by intro k hk hb; simp at hk hb; simp [hk, hb, h_4, h_8, h_19, q_28, q_29, q_30, q_31, q_32, q_33, q_34, q_35, h_37, hn_36 k (by simp [hk, hb])])⟩ <;> simp [restrict_env, restrict_mem, h_4, h_8, h_19, q_28, q_29, q_30, q_31, q_32, q_33, q_34, q_35, h_37]
              · intro s_46 σ_50 a_47 hI hp
                rw [I_48_] at hI
                obtain ⟨q_51, q_52, q_53, q_54, q_55, q_56, q_57, q_58, q_59, q_60, q_61, q_62, hn_63⟩ := hI
                try simp [h_4, h_8, h_19, h_37, q_51, q_52, q_53, q_54, q_55, q_56, q_57, q_58, q_59, q_60, q_61, q_62]
                rcases cond_cases hp with ⟨h_64, hp⟩ | ⟨h_64, hp⟩
                · try simp at h_64
                  obtain ⟨e_65, h_66, hp⟩ := bind_some hp
                  have b_67 := at_lo h_66
                  have b_68 := at_hi h_66
                  try simp at b_67
                  try simp at b_68
                  have c_69 := seg_at' h_66 0 1 (by decide) (ds := [.sl e_65.length (encL e_65)]) rfl
                  try simp at c_69
                  have n_70 := hn_63 (1, 11) (by simp)
                  obtain ⟨y_71, h_72, hp⟩ := bind_some hp
                  have c_73 := C147_eq h_72
                  simp at c_73
                  try simp [h_4, h_8, h_19, h_37, q_51, q_52, q_53, q_54, q_55, q_56, q_57, q_58, q_59, q_60, q_61, q_62, h_64, b_67, b_68, c_69, n_70, c_73]
                  rcases cond_cases hp with ⟨h_74, hp⟩ | ⟨h_74, hp⟩
                  · try simp at h_74
                    obtain ⟨y_75, h_76, hp⟩ := bind_some hp
                    have c_77 := C148_eq h_76
                    simp at c_77
                    obtain ⟨_, h_78, hp⟩ := bind_some hp
                    have b_79 := room_ok h_78
                    try simp at b_79
                    cases hp
                    try simp [h_4, h_8, h_19, h_37, q_51, q_52, q_53, q_54, q_55, q_56, q_57, q_58, q_59, q_60, q_61, q_62, h_64, h_74, c_77, b_79]
                    refine goal_next ?_
                    rw [I_48_]
                    refine ⟨?_, ?_, ?_, ?_, ?_, ?_, ?_, ?_, ?_, ?_, ?_, ?_, NoBox.restrict (by intro k hk hb; simp at hk hb; simp [hk, hb, h_4, h_8, h_19, h_37, q_51, q_52, q_53, q_54, q_55, q_56, q_57, q_58, q_59, q_60, q_61, q_62, h_64, h_74, c_77, b_79, hn_63 k (by simp [hk, hb])])⟩ <;> simp [restrict_env, restrict_mem, h_4, h_8, h_19, h_37, q_51, q_52, q_53, q_54, q_55, q_56, q_57, q_58, q_59, q_60, q_61, q_62, h_64, h_74, c_77, b_79]
                  · try simp at h_74
                    cases hp
                    try simp [h_4, h_8, h_19, h_37, q_51, q_52, q_53, q_54, q_55, q_56, q_57, q_58, q_59, q_60, q_61, q_62, h_64, h_74]
                    refine goal_next ?_
                    rw [I_48_]
                    refine ⟨?_, ?_, ?_, ?_, ?_, ?_, ?_, ?_, ?_, ?_, ?_, ?_, NoBox.restrict (by intro k hk hb; simp at hk hb; simp [hk, hb, h_4, h_8, h_19, h_37, q_51, q_52, q_53, q_54, q_55, q_56, q_57, q_58, q_59, q_60, q_61, q_62, h_64, h_74, hn_63 k (by simp [hk, hb])])⟩ <;> simp [restrict_env, restrict_mem, h_4, h_8, h_19, h_37, q_51, q_52, q_53, q_54, q_55, q_56, q_57, q_58, q_59, q_60, q_61, q_62, h_64, h_74]
                · try simp at h_64
                  cases hp
                  try simp [h_4, h_8, h_19, h_37, q_51, q_52, q_53, q_54, q_55, q_56, q_57, q_58, q_59, q_60, q_61, q_62, h_64]
                  refine goal_outX ?_
                  rw [X_49_]
                  refine ⟨_, rfl, ?_, ?_, ?_, ?_, ?_, ?_, ?_, ?_, NoBox.restrict (by intro k hk hb; simp at hk hb; simp [hk, hb, h_4, h_8, h_19, h_37, q_51, q_52, q_53, q_54, q_55, q_56, q_57, q_58, q_59, q_60, q_61, q_62, h_64, hn_63 k (by simp [hk, hb])])⟩ <;> simp [restrict_env, restrict_mem, h_4, h_8, h_19, h_37, q_51, q_52, q_53, q_54, q_55, q_56, q_57, q_58, q_59, q_60, q_61, q_62, h_64]
              · intro out hX
                rw [X_49_] at hX
                obtain ⟨σ_82, rfl, q_83, q_84, q_85, q_86, q_87, q_88, q_89, q_90, hn_91⟩ := hX
                cases hp
                try simp [h_4, h_8, h_19, h_37, q_83, q_84, q_85, q_86, q_87, q_88, q_89, q_90]
                refine goal_next ?_
                rw [I_25_]
                refine ⟨?_, ?_, ?_, ?_, ?_, ?_, ?_, ?_, NoBox.restrict (by intro k hk hb; simp at hk hb; simp [hk, hb, h_4, h_8, h_19, h_37, q_83, q_84, q_85, q_86, q_87, q_88, q_89, q_90, hn_91 k (by simp [hk, hb])])⟩ <;> simp [restrict_env, restrict_mem, h_4, h_8, h_19, h_37, q_83, q_84, q_85, q_86, q_87, q_88, q_89, q_90]
            · try simp at h_37
              cases hp
              try simp [h_4, h_8, h_19, q_28, q_29, q_30, q_31, q_32, q_33, q_34, q_35, h_37]
              refine goal_outX ?_
              rw [X_26_]
              refine ⟨_, rfl, ?_, ?_, ?_, ?_, NoBox.restrict (by intro k hk hb; simp at hk hb; simp [hk, hb, h_4, h_8, h_19, q_28, q_29, q_30, q_31, q_32, q_33, q_34, q_35, h_37, hn_36 k (by simp [hk, hb])])⟩ <;> simp [restrict_env, restrict_mem, h_4, h_8, h_19, q_28, q_29, q_30, q_31, q_32, q_33, q_34, q_35, h_37]
          · intro out hX
            rw [X_26_] at hX
            obtain ⟨σ_94, rfl, q_95, q_96, q_97, q_98, hn_99⟩ := hX
            cases hp
            try simp [h_4, h_8, h_19, q_95, q_96, q_97, q_98]
            refine goal_next ?_
            rw [I_11_]
            refine ⟨?_, ?_, ?_, ?_, NoBox.restrict (by intro k hk hb; simp at hk hb; simp [hk, hb, h_4, h_8, h_19, q_95, q_96, q_97, q_98, hn_99 k (by simp [hk, hb])])⟩ <;> simp [restrict_env, restrict_mem, h_4, h_8, h_19, q_95, q_96, q_97, q_98]
        · try simp at h_19
          cases hp
          try simp [h_4, h_8, q_14, q_15, q_16, q_17, h_19]
          refine goal_outX ?_
          rw [X_12_]
          exact ⟨_, rfl, by simp [restrict_env, h_4, h_8, q_14, q_15, q_16, q_17, h_19], NoBox.restrict (by intro k hk hb; simp at hk hb; simp [hk, hb, h_4, h_8, q_14, q_15, q_16, q_17, h_19, hn_18 k (by simp [hk, hb])])⟩
      · intro out hX
        rw [X_12_] at hX
        obtain ⟨σ_102, rfl, q_103, hn_104⟩ := hX
        cases hp
        simp [Goal, FnEnd, h_4, h_8, q_103]
    · try simp at h_8
      cases hp
      simp [Goal, FnEnd, h_4, h_8]
  · try simp at h_4
    cases hp
    simp [Goal, FnEnd, h_4]
theorem pc140 : PC Try.prog 140 C140 := pc_of (g := g140) (ctxOK_of [(122, C122), (147, C147), (148, C148), (183, C183)] rfl ⟨pc122, pc147, pc148, pc183, trivial⟩) ⟨Try.f140, Try.func140, by kernel_rfl, by kernel_rfl⟩ fun x y h => w140 h

abbrev G76 (g : Cfg) : Prop := Has Try.prog g 76 Try.f76 [18, 22, 23, 27] [(3, { hd := [2, 7, 13, 14, 15], bx := [9], ex := [7], rt := [6] })] [(140, C140)] [(2000002, [.thaw (.sl 13 0) 13 2])]
set_option maxHeartbeats 4000000 in
set_option maxRecDepth 100000 in
theorem wI76 {g : Cfg} (G : G76 g) {d : Nat} {mem : Mem} (hT : Tight d mem) (hB : ∀ x, (mem x).map (List.map C.killB) = mem x)  {vars : Int} {cells : Int} {accept : (THeap → Option (Bool))} {fk_accept : Nat} {caps_accept : List (Key × Nat)} (hl_accept : ∀ c ∈ caps_accept, c.1.1 ≤ d) (hc_accept : Clo g d mem fk_accept caps_accept fun x : THeap × Unit => accept x.1) {y} (hp : impl_described vars cells accept = some y) : callo g d 76 [av .shr vars, av .shr cells, .one (.fn fk_accept caps_accept)] mem = some (Res.res y, mem) := by
  have gP := G.P; have gt := G.tk; have gr := G.ro; have gg := G.gh
  have k_3 := G.kp (3, { hd := [2, 7, 13, 14, 15], bx := [9], ex := [7], rt := [6] }) (by simp)
  have c_140 := G.cs (140, C140) (by simp)
  have hT2 : memKill (fun k => decide (d < k.1)) mem = mem := hT
  have hm0 : ∀ t, mem (d + 1, t) = none := fun t => hT.none (by simp)
  refine start_in (Try.f76.body.getD .skip) [.tmp 6] G Try.func76 (by kernel_rfl) (by simp [Try.ntmps76]) rfl ?_
  unfold impl_described at hp
  obtain ⟨y_1, h_2, hp⟩ := bind_some hp
  have c_3 := C140_eq h_2
  simp at c_3
  simp [Try.f76, gP, gt, gr, gg, hm0, c_140, hB, c_3]
  try simp [gP, gt, gr, gg, hm0, c_140, hB]
  obtain ⟨r_33, h_34, hp⟩ := bind_some hp
  obtain ⟨I_6, I_6_⟩ : ∃ I : (List THeap) × Int × Int → St → Prop, I = (fun (s_4 : (List THeap) × Int × Int) (σ : St) => σ.env 2 = .one (.fn fk_accept caps_accept) ∧ σ.env 7 = .one (.l .own s_4.1.length (encL s_4.1)) ∧ σ.env 13 = .one (.bs (d + 1, 13) y_1.length 2) ∧ σ.env 14 = .one (.s (.int .i64 (y_1.length : Int))) ∧ σ.env 15 = .one (.s (.int .i64 s_4.2.1)) ∧ σ.mem (d + 1, 13) = some (deadC y_1 s_4.2.2) ∧ Tight (d + 1) σ.mem ∧ Agree d mem σ.mem ∧ NoBoxD d [(d + 1, 13)] σ.mem) := ⟨_, rfl⟩
  obtain ⟨X_7, X_7_⟩ : ∃ X : ((List THeap) × Int) → Out → Prop, X = (fun (r_33 : (List THeap) × Int) (out : Out) => ∃ σ : St, out = .exit 0 σ ∧ σ.env 7 = .one (.l .own r_33.1.length (encL r_33.1)) ∧ σ.mem (d + 1, 13) = some (deadC y_1 r_33.2) ∧ Tight (d + 1) σ.mem ∧ Agree d mem σ.mem ∧ NoBoxD d [(d + 1, 13)] σ.mem) := ⟨_, rfl⟩
  refine loopP ({ hd := [2, 7, 13, 14, 15], bx := [9], ex := [7], rt := [6] }) I_6 X_7 h_34 (by exact k_3) ?_ ?_ ?_
  · rw [I_6_]
    refine ⟨by simp [restrict_env, gP, gt, gr, gg, hm0, c_140, hB] <;> first | (intro x x1 x2 hx; have h0 := hl_accept _ hx; simp at h0; omega) | (intro x hx; have h0 := hl_accept _ hx; simp at h0; omega), ?_, ?_, ?_, ?_, ?_, (by repeat (first | exact tight_mem0 _ | exact hT.up | exact hT | refine Tight.restrict ?_ | refine Tight.upd ?_ (by simp) (by simp))), (by repeat (first | exact fun k hk => rfl | refine Agree.restrict hT ?_ | refine Agree.upd ?_ (by simp))), NoBoxD.restrict (by intro k hd hk hb; simp at hk hb; simp [hk, hb, gP, gt, gr, gg, hm0, c_140, hB, hT.none hd])⟩ <;> simp [restrict_env, restrict_mem, gP, gt, gr, gg, hm0, c_140, hB]
  · intro s_4 σ_8 a_5 hI hp
    rw [I_6_] at hI
    obtain ⟨q_9, q_10, q_11, q_12, q_13, q_14, ht_15, ha_16, hn_17⟩ := hI
    try simp [gP, gt, gr, gg, hm0, c_140, hB, q_9, q_10, q_11, q_12, q_13, q_14]
    rcases cond_cases hp with ⟨h_18, hp⟩ | ⟨h_18, hp⟩
    · try simp at h_18
      obtain ⟨e_19, h_20, hp⟩ := bind_some hp
      have b_21 := at_lo h_20
      have b_22 := at_hi h_20
      try simp at b_21
      try simp at b_22
      obtain ⟨_, h_23, hp⟩ := bind_some hp
      have h_24 := takeI_eq h_23
      have c_25 := seg_dead h_20 h_24 0 2 rfl rfl (cs := [(.l .own e_19.vars.length (encL e_19.vars)), (.l .own e_19.next.length (encL e_19.next))]) rfl
      try simp at c_25
      have c_26 := splice_dead h_20 h_24 0 rfl (cs := [C.dead, C.dead]) rfl
      try simp at c_26
      have n_27 := hn_17 (d + 1, 9) (by simp) (by simp)
      obtain ⟨y_28, h_29, hp⟩ := bind_some hp
      try simp [gP, gt, gr, gg, hm0, c_140, hB, q_9, q_10, q_11, q_12, q_13, q_14, h_18, b_21, b_22, c_25, c_26, n_27]
      refine goal_call ([av .bor e_19] ++ capsAV caps_accept) (Res.res y_28) (by simp [capsAV, gP, gt, gr, gg, hm0, c_140, hB, q_9, q_10, q_11, q_12, q_13, q_14, h_18]) (hc_accept _ _ _ (e_19, ()) _ (Nat.le_succ d) (by repeat (first | exact ha_16 | exact fun k hk => rfl | refine Agree.upd ?_ (by simp))) (by repeat (first | exact ht_15 | exact tight_mem0 _ | exact hT.up | exact hT | (simp only [q_9, q_10, q_11, q_12, q_13, q_14]; done) | refine Tight.upd ?_ (by simp) (by simp))) ⟨_, _, (.inr rfl), rfl, rfl⟩ h_29) ?_
      try simp [gP, gt, gr, gg, hm0, c_140, hB, q_9, q_10, q_11, q_12, q_13, q_14, h_18]
      rcases cond_cases hp with ⟨h_30, hp⟩ | ⟨h_30, hp⟩
      · try simp at h_30
        obtain ⟨_, h_31, hp⟩ := bind_some hp
        have b_32 := room_ok h_31
        try simp at b_32
        cases hp
        try simp [gP, gt, gr, gg, hm0, c_140, hB, q_9, q_10, q_11, q_12, q_13, q_14, h_18, h_30, b_32]
        refine goal_next ?_
        rw [I_6_]
        refine ⟨by simp [restrict_env, gP, gt, gr, gg, hm0, c_140, hB, q_9, q_10, q_11, q_12, q_13, q_14, h_18, h_30, b_32] <;> first | (intro x x1 x2 hx; have h0 := hl_accept _ hx; simp at h0; omega) | (intro x hx; have h0 := hl_accept _ hx; simp at h0; omega), ?_, ?_, ?_, ?_, ?_, (by repeat (first | exact ht_15 | exact tight_mem0 _ | exact hT.up | exact hT | refine Tight.restrict ?_ | refine Tight.upd ?_ (by simp) (by simp))), (by repeat (first | exact ha_16 | exact fun k hk => rfl | refine Agree.restrict hT ?_ | refine Agree.upd ?_ (by simp))), NoBoxD.restrict (by intro k hd hk hb; simp at hk hb; simp [hk, hb, gP, gt, gr, gg, hm0, c_140, hB, q_9, q_10, q_11, q_12, q_13, q_14, h_18, h_30, b_32, hn_17 k hd (by simp [hk, hb])])⟩ <;> simp [restrict_env, restrict_mem, gP, gt, gr, gg, hm0, c_140, hB, q_9, q_10, q_11, q_12, q_13, q_14, h_18, h_30, b_32]
      · try simp at h_30
        cases hp
        try simp [gP, gt, gr, gg, hm0, c_140, hB, q_9, q_10, q_11, q_12, q_13, q_14, h_18, h_30]
        refine goal_next ?_
        rw [I_6_]
        refine ⟨by simp [restrict_env, gP, gt, gr, gg, hm0, c_140, hB, q_9, q_10, q_11, q_12, q_13, q_14, h_18, h_30] <;> first | (intro x x1 x2 hx; have h0 := hl_accept _ hx; simp at h0; omega) | (intro x hx; have h0 := hl_accept _ hx; simp at h0; omega), ?_, ?_, ?_, ?_, ?_, (by repeat (first | exact ht_15 | exact tight_mem0 _ | exact hT.up | exact hT | refine Tight.restrict ?_ | refine Tight.upd ?_ (by simp) (by simp))), (by repeat (first | exact ha_16 | exact fun k hk => rfl | refine Agree.restrict hT ?_ | refine Agree.upd ?_ (by simp))), NoBoxD.restrict (by intro k hd hk hb; simp at hk hb; simp [hk, hb, gP, gt, gr, gg, hm0, c_140, hB, q_9, q_10, q_11, q_12, q_13, q_14, h_18, h_30, hn_17 k hd (by simp [hk, hb])])⟩ <;> simp [restrict_env, restrict_mem, gP, gt, gr, gg, hm0, c_140, hB, q_9, q_10, q_11, q_12, q_13, q_14, h_18, h_30]
    · try simp at h_18
      cases hp
      try simp [gP, gt, gr, gg, hm0, c_140, hB, q_9, q_10, q_11, q_12, q_13, q_14, h_18]
      refine goal_outX ?_
      rw [X_7_]
      refine ⟨_, rfl, ?_, ?_, (by repeat (first | exact ht_15 | exact tight_mem0 _ | exact hT.up | exact hT | refine Tight.restrict ?_ | refine Tight.upd ?_ (by simp) (by simp))), (by repeat (first | exact ha_16 | exact fun k hk => rfl | refine Agree.restrict hT ?_ | refine Agree.upd ?_ (by simp))), NoBoxD.restrict (by intro k hd hk hb; simp at hk hb; simp [hk, hb, gP, gt, gr, gg, hm0, c_140, hB, q_9, q_10, q_11, q_12, q_13, q_14, h_18, hn_17 k hd (by simp [hk, hb])])⟩ <;> simp [restrict_env, restrict_mem, gP, gt, gr, gg, hm0, c_140, hB, q_9, q_10, q_11, q_12, q_13, q_14, h_18]
  · intro out hX
    rw [X_7_] at hX
    obtain ⟨σ_35, rfl, q_36, q_37, ht_38, ha_39, hn_40⟩ := hX
    cases hp
    simp [Goal, FnEndI, memKill_hi, gP, gt, gr, gg, hm0, c_140, hB, q_36, q_37, kill_back ha_39 hT]

abbrev G77 (g : Cfg) : Prop := Has Try.prog g 77 Try.f77 [] [] [(78, C78)] []
set_option maxHeartbeats 4000000 in
set_option maxRecDepth 100000 in
theorem wI77 {g : Cfg} (G : G77 g) {d : Nat} {mem : Mem} (hT : Tight d mem) {K_1 : Key} {h_ : THeap} {c0 : (List TStructure)} {m_0 : Md} (hm_0 : LentM m_0) {mk_1 : Md} (hk_1 : K_1.1 ≤ d) (hb_1 : mem K_1 = some [(.l mk_1 c0.length (encL c0))]) {y} (hp : impl_SmallHeapsOf_1 h_ c0 = some y) : callo g d 77 [av m_0 h_, .one (.ptr K_1 0)] mem = some (Res.res y, mem) := by
  have gP := G.P; have gt := G.tk; have gr := G.ro; have gg := G.gh
  have c_78 := G.cs (78, C78) (by simp)
  have hT2 : memKill (fun k => decide (d < k.1)) mem = mem := hT
  have hm0 : ∀ t, mem (d + 1, t) = none := fun t => hT.none (by simp)
  have nk_1 : ∀ t, (K_1 = (d + 1, t)) = False := fun t => by simp; intro h; rw [h] at hk_1; simp at hk_1; omega
  refine start_in (Try.f77.body.getD .skip) [.tmp 3] G Try.func77 (by kernel_rfl) (by simp [Try.ntmps77]) rfl ?_
  unfold impl_SmallHeapsOf_1 at hp
  obtain ⟨y_1, h_2, hp⟩ := bind_some hp
  have c_3 := C78_eq h_2
  simp at c_3
  cases hp
  simp [Try.f77, Goal, FnEndI, memKill_hi, gP, gt, gr, gg, hm0, c_78, hm_0.copy, hm_0.elem, hb_1, nk_1, c_3, hT2]

noncomputable def C28 : List AV → Option AV := specP (X := Int × (List TStructure) × Int × Unit) fun x => impl_SmallHeapsOf x.1 x.2.1 x.2.2.1
theorem C28_eq {vars set cells} {y} (h : impl_SmallHeapsOf vars set cells = some y) : C28 [av .shr vars, av .shr set, av .shr cells] = some (Res.res y) := specP_eq (X := Int × (List TStructure) × Int × Unit) (F := fun x => impl_SmallHeapsOf x.1 x.2.1 x.2.2.1) (x := (vars, set, cells, ())) h
noncomputable def g28 : Cfg := { P := Try.prog, take := [(76, 18), (76, 22), (76, 23), (76, 27)], keep := [((76, 3), { hd := [2, 7, 13, 14, 15], bx := [9], ex := [7], rt := [6] })], gho := [((76, 2000002), [.thaw (.sl 13 0) 13 2])], ctx := [(78, C78), (140, C140)] }
@[simp] theorem g28_P : g28.P = Try.prog := rfl
@[simp] theorem g28_t : g28.take = [(76, 18), (76, 22), (76, 23), (76, 27)] := rfl
@[simp] theorem g28_g : g28.gho = [((76, 2000002), [.thaw (.sl 13 0) 13 2])] := rfl
@[simp] theorem g28_r : g28.ro = [] := rfl
@[simp] theorem g28_w : g28.away = [] := by rw [g28]
@[simp] theorem g28_78 : lookN 78 g28.ctx = some C78 := rfl
@[simp] theorem g28_140 : lookN 140 g28.ctx = some C140 := rfl
@[simp] theorem g28_76 : lookN 76 g28.ctx = none := rfl
@[simp] theorem g28_77 : lookN 77 g28.ctx = none := rfl
set_option maxHeartbeats 4000000 in
set_option maxRecDepth 100000 in
theorem w28 {vars set cells} {y} (hp : impl_SmallHeapsOf vars set cells = some y) : ∃ m, callo g28 0 28 [av .shr vars, av .shr set, av .shr cells] mem0 = some (Res.res y, m) := by
  have G_76 : G76 g28 := ⟨rfl, by kernel_rfl, rfl, fun t => by simp, noAway (fun t => by simp) (by simp), fun i => by simp [lookK], by simp [g28, lookK], by simp⟩
  have G_77 : G77 g28 := ⟨rfl, by kernel_rfl, rfl, fun t => by simp, noAway (fun t => by simp) (by simp), fun i => by simp [lookK], by simp [g28, lookK], by simp⟩
  refine start_fn (Try.f28.body.getD .skip) [.tmp 6] rfl rfl Try.func28 (by kernel_rfl) (by kernel_rfl) (by simp [Try.ntmps28]) rfl ?_
  unfold impl_SmallHeapsOf at hp
  obtain ⟨y_1, h_2, hp⟩ := bind_some hp
  simp [Try.f28]
  refine goal_call [av .shr vars, av .shr cells, .one (.fn 77 [((1, 4), 0)])] (Res.res y_1) (by simp) (wI76 G_76 (by repeat (first | exact tight_mem0 _ | exact hT.up | exact hT | (simp only [true_and]; done) | refine Tight.upd ?_ (by simp) (by simp))) (fun x => by simp only [upd_get, mem0]; (repeat' split) <;> simp_all) (by simp) (clo1 (p := fun x0 => impl_SmallHeapsOf_1 x0 set) fun d2 mem2 m0 x0 r2 hd2 ha2 hT2 hm0 hr2 => wI77 (mk_1 := .shr) G_77 hT2 hm0 (show 1 ≤ d2 from hd2) ((ha2 _ (Nat.le_refl _)).trans (by simp)) hr2) h_2) ?_
  cases hp
  simp [Goal, FnEnd]
theorem pc28 : PC Try.prog 28 C28 := pc_of (g := g28) (ctxOK_of [(78, C78), (140, C140)] rfl ⟨pc78, pc140, trivial⟩) ⟨Try.f28, Try.func28, by kernel_rfl, by kernel_rfl⟩ fun x y h => w28 h

noncomputable def C14 : List AV → Option AV := specP (X := Int × TStructure × Unit) fun x => impl_LeastHeap x.1 x.2.1
theorem C14_eq {vars s} {y} (h : impl_LeastHeap vars s = some y) : C14 [av .shr vars, av .shr s] = some (Res.res y) := specP_eq (X := Int × TStructure × Unit) (F := fun x => impl_LeastHeap x.1 x.2.1) (x := (vars, s, ())) h
noncomputable def g14 : Cfg := { P := Try.prog, take := [(14, 17)], keep := [], gho := [((14, 2000001), [.thaw (.sl 6 0) 6 2])], ctx := [(28, C28)] }
@[simp] theorem g14_P : g14.P = Try.prog := rfl
@[simp] theorem g14_t : g14.take = [(14, 17)] := rfl
@[simp] theorem g14_g : g14.gho = [((14, 2000001), [.thaw (.sl 6 0) 6 2])] := rfl
@[simp] theorem g14_r : g14.ro = [] := rfl
@[simp] theorem g14_w : g14.away = [] := by rw [g14]
@[simp] theorem g14_28 : lookN 28 g14.ctx = some C28 := rfl
set_option maxHeartbeats 4000000 in
set_option maxRecDepth 100000 in
theorem w14 {vars s} {y} (hp : impl_LeastHeap vars s = some y) : ∃ m, callo g14 0 14 [av .shr vars, av .shr s] mem0 = some (Res.res y, m) := by
  refine start_fn (Try.f14.body.getD .skip) [.cell 4 28, .tmp 5] rfl rfl Try.func14 (by kernel_rfl) (by kernel_rfl) (by simp [Try.ntmps14]) rfl ?_
  unfold impl_LeastHeap at hp
  obtain ⟨y_1, h_2, hp⟩ := bind_some hp
  have c_3 := C28_eq h_2
  simp at c_3
  simp [Try.f14, c_3]
  try simp
  rcases cond_cases hp with ⟨h_4, hp⟩ | ⟨h_4, hp⟩
  · try simp at h_4
    cases hp
    simp [Goal, FnEnd, retR, rsrc, RSrc.val, nodupR, nodup, tupPart, h_4]
  · try simp at h_4
    obtain ⟨e_5, h_6, hp⟩ := bind_some hp
    have b_7 := at_lo h_6
    have b_8 := at_hi h_6
    try simp at b_7
    try simp at b_8
    obtain ⟨_, h_9, hp⟩ := bind_some hp
    have h_10 := takeI_eq h_9
    have c_11 := seg_dead h_6 h_10 0 2 rfl rfl (cs := [(.l .own e_5.vars.length (encL e_5.vars)), (.l .own e_5.next.length (encL e_5.next))]) rfl
    try simp at c_11
    have c_12 := splice_dead h_6 h_10 0 rfl (cs := [C.dead, C.dead]) rfl
    try simp at c_12
    cases hp
    simp [Goal, FnEnd, retR, rsrc, RSrc.val, nodupR, nodup, tupPart, h_4, b_7, b_8, c_11, c_12]
theorem pc14 : PC Try.prog 14 C14 := pc_of (g := g14) (ctxOK_of [(28, C28)] rfl ⟨pc28, trivial⟩) ⟨Try.f14, Try.func14, by kernel_rfl, by kernel_rfl⟩ fun x y h => w14 h

noncomputable def C54 : List AV → Option AV := specP (X := (List Int) × (List Int) × Unit) fun x => laws_eqIntS x.1 x.2.1
theorem C54_eq {a_ b_} {y} (h : laws_eqIntS a_ b_ = some y) : C54 [av .shr a_, av .shr b_] = some (Res.res y) := specP_eq (X := (List Int) × (List Int) × Unit) (F := fun x => laws_eqIntS x.1 x.2.1) (x := (a_, b_, ())) h
noncomputable def g54 : Cfg := { P := Try.prog, take := [], keep := [((54, 4), { hd := [0, 1, 5], bx := [], ex := [], rt := [4] })], gho := [], ctx := [] }
@[simp] theorem g54_P : g54.P = Try.prog := rfl
@[simp] theorem g54_t : g54.take = [] := rfl
@[simp] theorem g54_g : g54.gho = [] := rfl
@[simp] theorem g54_r : g54.ro = [] := rfl
@[simp] theorem g54_w : g54.away = [] := by rw [g54]
set_option maxHeartbeats 4000000 in
set_option maxRecDepth 100000 in
theorem w54 {a_ b_} {y} (hp : laws_eqIntS a_ b_ = some y) : ∃ m, callo g54 0 54 [av .shr a_, av .shr b_] mem0 = some (Res.res y, m) := by
  refine start_fn (Try.f54.body.getD .skip) [.tmp 4] rfl rfl Try.func54 (by kernel_rfl) (by kernel_rfl) (by simp [Try.ntmps54]) rfl ?_
  unfold laws_eqIntS at hp
  simp [Try.f54]
  rcases cond_cases hp with ⟨h_1, hp⟩ | ⟨h_1, hp⟩
  · try simp at h_1
    cases hp
    simp [Goal, FnEnd, h_1]
  · try simp at h_1
    try simp [h_1]
    obtain ⟨r_23, h_24, hp⟩ := bind_some hp
    obtain ⟨I_4, I_4_⟩ : ∃ I : Int → St → Prop, I = (fun (s_2 : Int) (σ : St) => σ.env 0 = .one (.l .shr a_.length (encL a_)) ∧ σ.env 1 = .one (.l .shr b_.length (encL b_)) ∧ σ.env 5 = .one (.s (.int .i64 s_2)) ∧ σ.mem = mem0) := ⟨_, rfl⟩
    obtain ⟨X_5, X_5_⟩ : ∃ X : ((Unit) ⊕ (Unit)) → Out → Prop, X = (fun (r_23 : (Unit) ⊕ (Unit)) (out : Out) => Sum.elim (fun r_23 => ∃ σ : St, out = .ret σ ∧ σ.env 4 = .one (.s (.bool false)) ∧ σ.mem = mem0) (fun r_23 => ∃ σ : St, out = .exit 0 σ ∧ σ.mem = mem0) r_23) := ⟨_, rfl⟩
    refine loopP ({ hd := [0, 1, 5], bx := [], ex := [], rt := [4] }) I_4 X_5 h_24 (by exact rfl) ?_ ?_ ?_
    · rw [I_4_]
      refine ⟨?_, ?_, ?_, ?_⟩ <;> simp [restrict_env, restrict_mem, h_1]
    · intro s_2 σ_6 a_3 hI hp
      rw [I_4_] at hI
      obtain ⟨q_7, q_8, q_9, q_10⟩ := hI
      try simp [h_1, q_7, q_8, q_9, q_10]
      rcases cond_cases hp with ⟨h_11, hp⟩ | ⟨h_11, hp⟩
      · try simp at h_11
        obtain ⟨e_12, h_13, hp⟩ := bind_some hp
        have b_14 := at_lo h_13
        have b_15 := at_hi h_13
        try simp at b_14
        try simp at b_15
        have c_16 := seg_at' h_13 0 1 (by decide) (ds := [.sc (.int .i64 e_12)]) rfl
        try simp at c_16
        obtain ⟨e_17, h_18, hp⟩ := bind_some hp
        have b_19 := at_lo h_18
        have b_20 := at_hi h_18
        try simp at b_19
        try simp at b_20
        have c_21 := seg_at' h_18 0 1 (by decide) (ds := [.sc (.int .i64 e_17)]) rfl
        try simp at c_21
        try simp [h_1, q_7, q_8, q_9, q_10, h_11, b_14, b_15, c_16, b_19, b_20, c_21]
        rcases cond_cases hp with ⟨h_22, hp⟩ | ⟨h_22, hp⟩
        · try simp at h_22
          cases hp
          try simp [h_1, q_7, q_8, q_9, q_10, h_11, h_22]
          refine goal_outR ?_
          rw [X_5_]
          refine ⟨_, rfl, ?_, ?_⟩ <;> simp [restrict_env, restrict_mem, h_1, q_7, q_8, q_9, q_10, h_11, h_22]
        · try simp at h_22
          cases hp
          try simp [h_1, q_7, q_8, q_9, q_10, h_11, h_22]
          refine goal_next ?_
          rw [I_4_]
          refine ⟨?_, ?_, ?_, ?_⟩ <;> simp [restrict_env, restrict_mem, h_1, q_7, q_8, q_9, q_10, h_11, h_22]
      · try simp at h_11
        cases hp
        try simp [h_1, q_7, q_8, q_9, q_10, h_11]
        refine goal_outX ?_
        rw [X_5_]
        exact ⟨_, rfl, by simp [restrict_mem, h_1, q_7, q_8, q_9, q_10, h_11]⟩
    · intro out hX
      rw [X_5_] at hX
      rcases r_23 with r_23 | r_23
      · simp only [Sum.elim_inl, Sum.elim_inr] at hX hp
        obtain ⟨σ_25, rfl, q_26, q_27⟩ := hX
        cases hp
        simp [Goal, FnEnd, h_1, q_26, q_27]
      · simp only [Sum.elim_inl, Sum.elim_inr] at hX hp
        obtain ⟨σ_28, rfl, q_29⟩ := hX
        cases hp
        simp [Goal, FnEnd, h_1, q_29]
theorem pc54 : PC Try.prog 54 C54 := pc_of (g := g54) (fun f F h => by cases h) ⟨Try.f54, Try.func54, by kernel_rfl, by kernel_rfl⟩ fun x y h => w54 h

noncomputable def C15 : List AV → Option AV := specP (X := THeap × THeap × Unit) fun x => laws_eqHeap x.1 x.2.1
theorem C15_eq {a_ b_} {y} (h : laws_eqHeap a_ b_ = some y) : C15 [av .shr a_, av .shr b_] = some (Res.res y) := specP_eq (X := THeap × THeap × Unit) (F := fun x => laws_eqHeap x.1 x.2.1) (x := (a_, b_, ())) h
noncomputable def g15 : Cfg := { P := Try.prog, take := [], keep := [], gho := [], ctx := [(54, C54)] }
@[simp] theorem g15_P : g15.P = Try.prog := rfl
@[simp] theorem g15_t : g15.take = [] := rfl
@[simp] theorem g15_g : g15.gho = [] := rfl
@[simp] theorem g15_r : g15.ro = [] := rfl
@[simp] theorem g15_w : g15.away = [] := by rw [g15]
@[simp] theorem g15_54 : lookN 54 g15.ctx = some C54 := rfl
set_option maxHeartbeats 4000000 in
set_option maxRecDepth 100000 in
theorem w15 {a_ b_} {y} (hp : laws_eqHeap a_ b_ = some y) : ∃ m, callo g15 0 15 [av .shr a_, av .shr b_] mem0 = some (Res.res y, m) := by
  refine start_fn (Try.f15.body.getD .skip) [.tmp 4] rfl rfl Try.func15 (by kernel_rfl) (by kernel_rfl) (by simp [Try.ntmps15]) rfl ?_
  unfold laws_eqHeap at hp
  obtain ⟨y_1, h_2, hp⟩ := bind_some hp
  have c_3 := C54_eq h_2
  simp at c_3
  simp [Try.f15, c_3]
  rcases cond_cases hp with ⟨h_4, hp⟩ | ⟨h_4, hp⟩
  · try simp at h_4
    obtain ⟨y_5, h_6, hp⟩ := bind_some hp
    have c_7 := C54_eq h_6
    simp at c_7
    try simp [h_4, c_7]
    rcases cond_cases hp with ⟨h_8, hp⟩ | ⟨h_8, hp⟩
    · try simp at h_8
      cases hp
      simp [Goal, FnEnd, h_4, h_8]
    · try simp at h_8
      cases hp
      simp [Goal, FnEnd, h_4, h_8]
  · try simp at h_4
    cases hp
    simp [Goal, FnEnd, h_4]
theorem pc15 : PC Try.prog 15 C15 := pc_of (g := g15) (ctxOK_of [(54, C54)] rfl ⟨pc54, trivial⟩) ⟨Try.f15, Try.func15, by kernel_rfl, by kernel_rfl⟩ fun x y h => w15 h

noncomputable def C103 : List AV → Option AV := specP (X := TNode × TNode × Unit) fun x => laws_eqNode x.1 x.2.1
theorem C103_eq {a_ b_} {y} (h : laws_eqNode a_ b_ = some y) : C103 [av .shr a_, av .shr b_] = some (Res.res y) := specP_eq (X := TNode × TNode × Unit) (F := fun x => laws_eqNode x.1 x.2.1) (x := (a_, b_, ())) h
noncomputable def g103 : Cfg := { P := Try.prog, take := [], keep := [], gho := [], ctx := [(54, C54)] }
@[simp] theorem g103_P : g103.P = Try.prog := rfl
@[simp] theorem g103_t : g103.take = [] := rfl
@[simp] theorem g103_g : g103.gho = [] := rfl
@[simp] theorem g103_r : g103.ro = [] := rfl
@[simp] theorem g103_w : g103.away = [] := by rw [g103]
@[simp] theorem g103_54 : lookN 54 g103.ctx = some C54 := rfl
set_option maxHeartbeats 4000000 in
set_option maxRecDepth 100000 in
theorem w103 {a_ b_} {y} (hp : laws_eqNode a_ b_ = some y) : ∃ m, callo g103 0 103 [av .shr a_, av .shr b_] mem0 = some (Res.res y, m) := by
  refine start_fn (Try.f103.body.getD .skip) [.tmp 4] rfl rfl Try.func103 (by kernel_rfl) (by kernel_rfl) (by simp [Try.ntmps103]) rfl ?_
  unfold laws_eqNode at hp
  obtain ⟨y_1, h_2, hp⟩ := bind_some hp
  have c_3 := C54_eq h_2
  simp at c_3
  simp [Try.f103, c_3]
  rcases cond_cases hp with ⟨h_4, hp⟩ | ⟨h_4, hp⟩
  · try simp at h_4
    obtain ⟨y_5, h_6, hp⟩ := bind_some hp
    have c_7 := C54_eq h_6
    simp at c_7
    try simp [h_4, c_7]
    rcases cond_cases hp with ⟨h_8, hp⟩ | ⟨h_8, hp⟩
    · try simp at h_8
      try simp [h_4, h_8]
      rcases cond_cases hp with ⟨h_9, hp⟩ | ⟨h_9, hp⟩
      · try simp at h_9
        cases hp
        simp [Goal, FnEnd, h_4, h_8, h_9]
      · try simp at h_9
        try simp [h_4, h_8, h_9]
        rcases cond_cases hp with ⟨h_10, hp⟩ | ⟨h_10, hp⟩
        · try simp at h_10
          cases hp
          simp [Goal, FnEnd, h_4, h_8, h_9, h_10]
        · try simp at h_10
          cases hp
          simp [Goal, FnEnd, h_4, h_8, h_9, h_10]
    · try simp at h_8
      cases hp
      simp [Goal, FnEnd, h_4, h_8]
  · try simp at h_4
    cases hp
    simp [Goal, FnEnd, h_4]
theorem pc103 : PC Try.prog 103 C103 := pc_of (g := g103) (ctxOK_of [(54, C54)] rfl ⟨pc54, trivial⟩) ⟨Try.f103, Try.func103, by kernel_rfl, by kernel_rfl⟩ fun x y h => w103 h

noncomputable def C55 : List AV → Option AV := specP (X := (List TNode) × (List TNode) × Unit) fun x => laws_eqNodeS x.1 x.2.1
theorem C55_eq {a_ b_} {y} (h : laws_eqNodeS a_ b_ = some y) : C55 [av .shr a_, av .shr b_] = some (Res.res y) := specP_eq (X := (List TNode) × (List TNode) × Unit) (F := fun x => laws_eqNodeS x.1 x.2.1) (x := (a_, b_, ())) h
noncomputable def g55 : Cfg := { P := Try.prog, take := [], keep := [((55, 4), { hd := [0, 1, 5], bx := [], ex := [], rt := [4] })], gho := [], ctx := [(103, C103)] }
@[simp] theorem g55_P : g55.P = Try.prog := rfl
@[simp] theorem g55_t : g55.take = [] := rfl
@[simp] theorem g55_g : g55.gho = [] := rfl
@[simp] theorem g55_r : g55.ro = [] := rfl
@[simp] theorem g55_w : g55.away = [] := by rw [g55]
@[simp] theorem g55_103 : lookN 103 g55.ctx = some C103 := rfl
set_option maxHeartbeats 4000000 in
set_option maxRecDepth 100000 in
theorem w55 {a_ b_} {y} (hp : laws_eqNodeS a_ b_ = some y) : ∃ m, callo g55 0 55 [av .shr a_, av .shr b_] mem0 = some (Res.res y, m) := by
  refine start_fn (Try.f55.body.getD .skip) [.tmp 4] rfl rfl Try.func55 (by kernel_rfl) (by kernel_rfl) (by simp [Try.ntmps55]) rfl ?_
  unfold laws_eqNodeS at hp
  simp [Try.f55]
  rcases cond_cases hp with ⟨h_1, hp⟩ | ⟨h_1, hp⟩
  · try simp at h_1
    cases hp
    simp [Goal, FnEnd, h_1]
  · try simp at h_1
    try simp [h_1]
    obtain ⟨r_26, h_27, hp⟩ := bind_some hp
    obtain ⟨I_4, I_4_⟩ : ∃ I : Int → St → Prop, I = (fun (s_2 : Int) (σ : St) => σ.env 0 = .one (.l .shr a_.length (encL a_)) ∧ σ.env 1 = .one (.l .shr b_.length (encL b_)) ∧ σ.env 5 = .one (.s (.int .i64 s_2)) ∧ σ.mem = mem0) := ⟨_, rfl⟩
    obtain ⟨X_5, X_5_⟩ : ∃ X : ((Unit) ⊕ (Unit)) → Out → Prop, X = (fun (r_26 : (Unit) ⊕ (Unit)) (out : Out) => Sum.elim (fun r_26 => ∃ σ : St, out = .ret σ ∧ σ.env 4 = .one (.s (.bool false)) ∧ σ.mem = mem0) (fun r_26 => ∃ σ : St, out = .exit 0 σ ∧ σ.mem = mem0) r_26) := ⟨_, rfl⟩
    refine loopP ({ hd := [0, 1, 5], bx := [], ex := [], rt := [4] }) I_4 X_5 h_27 (by exact rfl) ?_ ?_ ?_
    · rw [I_4_]
      refine ⟨?_, ?_, ?_, ?_⟩ <;> simp [restrict_env, restrict_mem, h_1]
    · intro s_2 σ_6 a_3 hI hp
      rw [I_4_] at hI
      obtain ⟨q_7, q_8, q_9, q_10⟩ := hI
      try simp [h_1, q_7, q_8, q_9, q_10]
      rcases cond_cases hp with ⟨h_11, hp⟩ | ⟨h_11, hp⟩
      · try simp at h_11
        obtain ⟨e_12, h_13, hp⟩ := bind_some hp
        have b_14 := at_lo h_13
        have b_15 := at_hi h_13
        try simp at b_14
        try simp at b_15
        have c_16 := seg_at' h_13 0 4 (by decide) (ds := [.sl e_12.vars.length (encL e_12.vars), .sl e_12.reach.length (encL e_12.reach), .sc (.int .i64 e_12.shared), .sc (.int .i64 e_12.many)]) rfl
        try simp at c_16
        obtain ⟨e_17, h_18, hp⟩ := bind_some hp
        have b_19 := at_lo h_18
        have b_20 := at_hi h_18
        try simp at b_19
        try simp at b_20
        have c_21 := seg_at' h_18 0 4 (by decide) (ds := [.sl e_17.vars.length (encL e_17.vars), .sl e_17.reach.length (encL e_17.reach), .sc (.int .i64 e_17.shared), .sc (.int .i64 e_17.many)]) rfl
        try simp at c_21
        obtain ⟨y_22, h_23, hp⟩ := bind_some hp
        have c_24 := C103_eq h_23
        simp at c_24
        try simp [h_1, q_7, q_8, q_9, q_10, h_11, b_14, b_15, c_16, b_19, b_20, c_21, c_24]
        rcases cond_cases hp with ⟨h_25, hp⟩ | ⟨h_25, hp⟩
        · try simp at h_25
          cases hp
          try simp [h_1, q_7, q_8, q_9, q_10, h_11, h_25]
          refine goal_next ?_
          rw [I_4_]
          refine ⟨?_, ?_, ?_, ?_⟩ <;> simp [restrict_env, restrict_mem, h_1, q_7, q_8, q_9, q_10, h_11, h_25]
        · try simp at h_25
          cases hp
          try simp [h_1, q_7, q_8, q_9, q_10, h_11, h_25]
          refine goal_outR ?_
          rw [X_5_]
          refine ⟨_, rfl, ?_, ?_⟩ <;> simp [restrict_env, restrict_mem, h_1, q_7, q_8, q_9, q_10, h_11, h_25]
      · try simp at h_11
        cases hp
        try simp [h_1, q_7, q_8, q_9, q_10, h_11]
        refine goal_outX ?_
        rw [X_5_]
        exact ⟨_, rfl, by simp [restrict_mem, h_1, q_7, q_8, q_9, q_10, h_11]⟩
    · intro out hX
      rw [X_5_] at hX
      rcases r_26 with r_26 | r_26
      · simp only [Sum.elim_inl, Sum.elim_inr] at hX hp
        obtain ⟨σ_28, rfl, q_29, q_30⟩ := hX
        cases hp
        simp [Goal, FnEnd, h_1, q_29, q_30]
      · simp only [Sum.elim_inl, Sum.elim_inr] at hX hp
        obtain ⟨σ_31, rfl, q_32⟩ := hX
        cases hp
        simp [Goal, FnEnd, h_1, q_32]
theorem pc55 : PC Try.prog 55 C55 := pc_of (g := g55) (ctxOK_of [(103, C103)] rfl ⟨pc103, trivial⟩) ⟨Try.f55, Try.func55, by kernel_rfl, by kernel_rfl⟩ fun x y h => w55 h

noncomputable def C16 : List AV → Option AV := specP (X := TStructure × TStructure × Unit) fun x => laws_eqStructure x.1 x.2.1
theorem C16_eq {a_ b_} {y} (h : laws_eqStructure a_ b_ = some y) : C16 [av .shr a_, av .shr b_] = some (Res.res y) := specP_eq (X := TStructure × TStructure × Unit) (F := fun x => laws_eqStructure x.1 x.2.1) (x := (a_, b_, ())) h
noncomputable def g16 : Cfg := { P := Try.prog, take := [], keep := [], gho := [], ctx := [(54, C54), (55, C55)] }
@[simp] theorem g16_P : g16.P = Try.prog := rfl
@[simp] theorem g16_t : g16.take = [] := rfl
@[simp] theorem g16_g : g16.gho = [] := rfl
@[simp] theorem g16_r : g16.ro = [] := rfl
@[simp] theorem g16_w : g16.away = [] := by rw [g16]
@[simp] theorem g16_54 : lookN 54 g16.ctx = some C54 := rfl
@[simp] theorem g16_55 : lookN 55 g16.ctx = some C55 := rfl
set_option maxHeartbeats 4000000 in
set_option maxRecDepth 100000 in
theorem w16 {a_ b_} {y} (hp : laws_eqStructure a_ b_ = some y) : ∃ m, callo g16 0 16 [av .shr a_, av .shr b_] mem0 = some (Res.res y, m) := by
  refine start_fn (Try.f16.body.getD .skip) [.tmp 4] rfl rfl Try.func16 (by kernel_rfl) (by kernel_rfl) (by simp [Try.ntmps16]) rfl ?_
  unfold laws_eqStructure at hp
  obtain ⟨y_1, h_2, hp⟩ := bind_some hp
  have c_3 := C55_eq h_2
  simp at c_3
  simp [Try.f16, c_3]
  rcases cond_cases hp with ⟨h_4, hp⟩ | ⟨h_4, hp⟩
  · try simp at h_4
    obtain ⟨y_5, h_6, hp⟩ := bind_some hp
    have c_7 := C54_eq h_6
    simp at c_7
    try simp [h_4, c_7]
    rcases cond_cases hp with ⟨h_8, hp⟩ | ⟨h_8, hp⟩
    · try simp at h_8
      cases hp
      simp [Goal, FnEnd, h_4, h_8]
    · try simp at h_8
      cases hp
      simp [Goal, FnEnd, h_4, h_8]
  · try simp at h_4
    cases hp
    simp [Goal, FnEnd, h_4]
theorem pc16 : PC Try.prog 16 C16 := pc_of (g := g16) (ctxOK_of [(54, C54), (55, C55)] rfl ⟨pc54, pc55, trivial⟩) ⟨Try.f16, Try.func16, by kernel_rfl, by kernel_rfl⟩ fun x y h => w16 h

noncomputable def C58 : List AV → Option AV := specP (X := (List Int) × Int × Unit) fun x => laws_heldIntS x.1 x.2.1
theorem C58_eq {a_ k_} {y} (h : laws_heldIntS a_ k_ = some y) : C58 [av .shr a_, av .shr k_] = some (Res.res y) := specP_eq (X := (List Int) × Int × Unit) (F := fun x => laws_heldIntS x.1 x.2.1) (x := (a_, k_, ())) h
noncomputable def g58 : Cfg := { P := Try.prog, take := [], keep := [((58, 2), { hd := [0, 1, 5], bx := [], ex := [1], rt := [4] })], gho := [], ctx := [] }
@[simp] theorem g58_P : g58.P = Try.prog := rfl
@[simp] theorem g58_t : g58.take = [] := rfl
@[simp] theorem g58_g : g58.gho = [] := rfl
@[simp] theorem g58_r : g58.ro = [] := rfl
@[simp] theorem g58_w : g58.away = [] := by rw [g58]
set_option maxHeartbeats 4000000 in
set_option maxRecDepth 100000 in
theorem w58 {a_ k_} {y} (hp : laws_heldIntS a_ k_ = some y) : ∃ m, callo g58 0 58 [av .shr a_, av .shr k_] mem0 = some (Res.res y, m) := by
  refine start_fn (Try.f58.body.getD .skip) [.tmp 4] rfl rfl Try.func58 (by kernel_rfl) (by kernel_rfl) (by simp [Try.ntmps58]) rfl ?_
  unfold laws_heldIntS at hp
  simp [Try.f58]
  obtain ⟨r_17, h_18, hp⟩ := bind_some hp
  obtain ⟨I_3, I_3_⟩ : ∃ I : Int × Int → St → Prop, I = (fun (s_1 : Int × Int) (σ : St) => σ.env 0 = .one (.l .shr a_.length (encL a_)) ∧ σ.env 1 = .one (.s (.int .i64 s_1.1)) ∧ σ.env 5 = .one (.s (.int .i64 s_1.2)) ∧ σ.mem = mem0) := ⟨_, rfl⟩
  obtain ⟨X_4, X_4_⟩ : ∃ X : ((Int) ⊕ (Int)) → Out → Prop, X = (fun (r_17 : (Int) ⊕ (Int)) (out : Out) => Sum.elim (fun r_17 => ∃ σ : St, out = .ret σ ∧ σ.env 4 = .one (.s (.int .i64 r_17)) ∧ σ.mem = mem0) (fun r_17 => ∃ σ : St, out = .exit 0 σ ∧ σ.env 1 = .one (.s (.int .i64 r_17)) ∧ σ.mem = mem0) r_17) := ⟨_, rfl⟩
  refine loopP ({ hd := [0, 1, 5], bx := [], ex := [1], rt := [4] }) I_3 X_4 h_18 (by exact rfl) ?_ ?_ ?_
  · rw [I_3_]
    refine ⟨?_, ?_, ?_, ?_⟩ <;> simp [restrict_env, restrict_mem]
  · intro s_1 σ_5 a_2 hI hp
    rw [I_3_] at hI
    obtain ⟨q_6, q_7, q_8, q_9⟩ := hI
    try simp [q_6, q_7, q_8, q_9]
    rcases cond_cases hp with ⟨h_10, hp⟩ | ⟨h_10, hp⟩
    · try simp at h_10
      obtain ⟨e_11, h_12, hp⟩ := bind_some hp
      have b_13 := at_lo h_12
      have b_14 := at_hi h_12
      try simp at b_13
      try simp at b_14
      have c_15 := seg_at' h_12 0 1 (by decide) (ds := [.sc (.int .i64 e_11)]) rfl
      try simp at c_15
      try simp [q_6, q_7, q_8, q_9, h_10, b_13, b_14, c_15]
      rcases cond_cases hp with ⟨h_16, hp⟩ | ⟨h_16, hp⟩
      · try simp at h_16
        cases hp
        try simp [q_6, q_7, q_8, q_9, h_10, h_16]
        refine goal_outR ?_
        rw [X_4_]
        refine ⟨_, rfl, ?_, ?_⟩ <;> simp [restrict_env, restrict_mem, q_6, q_7, q_8, q_9, h_10, h_16]
      · try simp at h_16
        cases hp
        try simp [q_6, q_7, q_8, q_9, h_10, h_16]
        refine goal_next ?_
        rw [I_3_]
        refine ⟨?_, ?_, ?_, ?_⟩ <;> simp [restrict_env, restrict_mem, q_6, q_7, q_8, q_9, h_10, h_16]
    · try simp at h_10
      cases hp
      try simp [q_6, q_7, q_8, q_9, h_10]
      refine goal_outX ?_
      rw [X_4_]
      refine ⟨_, rfl, ?_, ?_⟩ <;> simp [restrict_env, restrict_mem, q_6, q_7, q_8, q_9, h_10]
  · intro out hX
    rw [X_4_] at hX
    rcases r_17 with r_17 | r_17
    · simp only [Sum.elim_inl, Sum.elim_inr] at hX hp
      obtain ⟨σ_19, rfl, q_20, q_21⟩ := hX
      cases hp
      simp [Goal, FnEnd, q_20, q_21]
    · simp only [Sum.elim_inl, Sum.elim_inr] at hX hp
      obtain ⟨σ_22, rfl, q_23, q_24⟩ := hX
      cases hp
      simp [Goal, FnEnd, q_23, q_24]
theorem pc58 : PC Try.prog 58 C58 := pc_of (g := g58) (fun f F h => by cases h) ⟨Try.f58, Try.func58, by kernel_rfl, by kernel_rfl⟩ fun x y h => w58 h

noncomputable def C19 : List AV → Option AV := specP (X := THeap × Int × Unit) fun x => laws_heldHeap x.1 x.2.1
theorem C19_eq {a_ k_} {y} (h : laws_heldHeap a_ k_ = some y) : C19 [av .shr a_, av .shr k_] = some (Res.res y) := specP_eq (X := THeap × Int × Unit) (F := fun x => laws_heldHeap x.1 x.2.1) (x := (a_, k_, ())) h
noncomputable def g19 : Cfg := { P := Try.prog, take := [], keep := [], gho := [], ctx := [(58, C58)] }
@[simp] theorem g19_P : g19.P = Try.prog := rfl
@[simp] theorem g19_t : g19.take = [] := rfl
@[simp] theorem g19_g : g19.gho = [] := rfl
@[simp] theorem g19_r : g19.ro = [] := rfl
@[simp] theorem g19_w : g19.away = [] := by rw [g19]
@[simp] theorem g19_58 : lookN 58 g19.ctx = some C58 := rfl
set_option maxHeartbeats 4000000 in
set_option maxRecDepth 100000 in
theorem w19 {a_ k_} {y} (hp : laws_heldHeap a_ k_ = some y) : ∃ m, callo g19 0 19 [av .shr a_, av .shr k_] mem0 = some (Res.res y, m) := by
  refine start_fn (Try.f19.body.getD .skip) [.tmp 4] rfl rfl Try.func19 (by kernel_rfl) (by kernel_rfl) (by simp [Try.ntmps19]) rfl ?_
  unfold laws_heldHeap at hp
  obtain ⟨y_1, h_2, hp⟩ := bind_some hp
  have c_3 := C58_eq h_2
  simp at c_3
  simp [Try.f19, c_3]
  rcases cond_cases hp with ⟨h_4, hp⟩ | ⟨h_4, hp⟩
  · try simp at h_4
    cases hp
    simp [Goal, FnEnd, h_4]
  · try simp at h_4
    obtain ⟨y_5, h_6, hp⟩ := bind_some hp
    have c_7 := C58_eq h_6
    simp at c_7
    try simp [h_4, c_7]
    rcases cond_cases hp with ⟨h_8, hp⟩ | ⟨h_8, hp⟩
    · try simp at h_8
      cases hp
      simp [Goal, FnEnd, h_4, h_8]
    · try simp at h_8
      cases hp
      simp [Goal, FnEnd, h_4, h_8]
theorem pc19 : PC Try.prog 19 C19 := pc_of (g := g19) (ctxOK_of [(58, C58)] rfl ⟨pc58, trivial⟩) ⟨Try.f19, Try.func19, by kernel_rfl, by kernel_rfl⟩ fun x y h => w19 h

noncomputable def C3 : List AV → Option AV := specP (X := Int × TStructure × Unit) fun x => laws_FnExactLeastHeap x.1 x.2.1
theorem C3_eq {aVars aS} {y} (h : laws_FnExactLeastHeap aVars aS = some y) : C3 [av .shr aVars, av .shr aS] = some (Res.res y) := specP_eq (X := Int × TStructure × Unit) (F := fun x => laws_FnExactLeastHeap x.1 x.2.1) (x := (aVars, aS, ())) h
noncomputable def g3 : Cfg := { P := Try.prog, take := [(3, 21), (3, 30), (3, 77)], keep := [((56, 2), rowKp), ((57, 2), rowKp)], gho := [((3, 13), [.many (thawBox 1 8)]), ((3, 2000013), [.many (frzBox 1 8)]), ((3, 17), [.many (thawBox 1 9)]), ((3, 2000017), [.many (frzBox 1 9)])], ctx := [(11, C11), (12, C12), (13, C13), (14, C14), (15, C15), (16, C16), (19, C19)] }
@[simp] theorem g3_P : g3.P = Try.prog := rfl
@[simp] theorem g3_t : g3.take = [(3, 21), (3, 30), (3, 77)] := rfl
@[simp] theorem g3_g : g3.gho = [((3, 13), [.many (thawBox 1 8)]), ((3, 2000013), [.many (frzBox 1 8)]), ((3, 17), [.many (thawBox 1 9)]), ((3, 2000017), [.many (frzBox 1 9)])] := rfl
@[simp] theorem g3_r : g3.ro = [] := rfl
@[simp] theorem g3_w : g3.away = [] := by rw [g3]
@[simp] theorem g3_11 : lookN 11 g3.ctx = some C11 := rfl
@[simp] theorem g3_12 : lookN 12 g3.ctx = some C12 := rfl
@[simp] theorem g3_13 : lookN 13 g3.ctx = some C13 := rfl
@[simp] theorem g3_14 : lookN 14 g3.ctx = some C14 := rfl
@[simp] theorem g3_15 : lookN 15 g3.ctx = some C15 := rfl
@[simp] theorem g3_16 : lookN 16 g3.ctx = some C16 := rfl
@[simp] theorem g3_19 : lookN 19 g3.ctx = some C19 := rfl
@[simp] theorem g3_17 : lookN 17 g3.ctx = none := rfl
@[simp] theorem g3_56 : lookN 56 g3.ctx = none := rfl
@[simp] theorem g3_57 : lookN 57 g3.ctx = none := rfl
@[simp] theorem g3_18 : lookN 18 g3.ctx = none := rfl
set_option maxHeartbeats 4000000 in
set_option maxRecDepth 100000 in
theorem w3 {aVars aS} {y} (hp : laws_FnExactLeastHeap aVars aS = some y) : ∃ m, callo g3 0 3 [av .shr aVars, av .shr aS] mem0 = some (Res.res y, m) := by
  have G_17 : G17 g3 := ⟨rfl, by kernel_rfl, rfl, fun t => by simp, noAway (fun t => by simp) (by simp), fun i => by simp [lookK], by simp [g3, lookK], by simp⟩
  have G_56 : G56 g3 := ⟨rfl, by kernel_rfl, rfl, fun t => by simp, noAway (fun t => by simp) (by simp), fun i => by simp [lookK], by simp [g3, lookK], by simp⟩
  have G_57 : G57 g3 := ⟨rfl, by kernel_rfl, rfl, fun t => by simp, noAway (fun t => by simp) (by simp), fun i => by simp [lookK], by simp [g3, lookK], by simp⟩
  have G_18 : G18 g3 := ⟨rfl, by kernel_rfl, rfl, fun t => by simp, noAway (fun t => by simp) (by simp), fun i => by simp [lookK], by simp [g3, lookK], by simp⟩
  refine start_fn (Try.f3.body.getD .skip) [.tmp 4] rfl rfl Try.func3 (by kernel_rfl) (by kernel_rfl) (by simp [Try.ntmps3]) rfl ?_
  unfold laws_FnExactLeastHeap at hp
  obtain ⟨y_1, h_2, hp⟩ := bind_some hp
  have c_3 := C11_eq h_2
  simp at c_3
  simp [Try.f3, c_3]
  rcases cond_cases hp with ⟨h_4, hp⟩ | ⟨h_4, hp⟩
  · try simp at h_4
    cases hp
    simp [Goal, FnEnd, h_4]
  · try simp at h_4
    obtain ⟨y_5, h_6, hp⟩ := bind_some hp
    have c_7 := C13_eq h_6
    simp at c_7
    obtain ⟨y_8, h_9, hp⟩ := bind_some hp
    have c_10 := C12_eq h_9
    simp at c_10
    obtain ⟨y_11, h_12, hp⟩ := bind_some hp
    cases Option.some.inj (h_6.symm.trans h_12)
    obtain ⟨y_13, h_14, hp⟩ := bind_some hp
    have c_15 := C14_eq h_14
    simp at c_15
    obtain ⟨y_16, h_17, hp⟩ := bind_some hp
    have c_18 := C15_eq h_17
    simp at c_18
    try simp [h_4, c_7, c_10, c_7, c_15, c_18]
    rcases cond_cases hp with ⟨h_19, hp⟩ | ⟨h_19, hp⟩
    · try simp at h_19
      try simp [h_4, h_19]
      rcases cond_cases hp with ⟨h_20, hp⟩ | ⟨h_20, hp⟩
      · try simp at h_20
        cases hp
        simp [Goal, FnEnd, h_4, h_19, h_20]
      · try simp at h_20
        obtain ⟨y_21, h_22, hp⟩ := bind_some hp
        cases Option.some.inj (h_6.symm.trans h_22)
        obtain ⟨y_23, h_24, hp⟩ := bind_some hp
        have c_25 := C16_eq h_24
        simp at c_25
        try simp [h_4, h_19, h_20, c_7, c_25]
        rcases cond_cases hp with ⟨h_26, hp⟩ | ⟨h_26, hp⟩
        · try simp at h_26
          obtain ⟨r_27, h_28, hp⟩ := bind_some hp
          obtain ⟨lg_29, e_30⟩ := markO_eq h_28
          have mk_31 := mk17 G_17 G_56 G_57 y_5 1 lg_29
          rw [e_30] at mk_31
          try simp [h_4, h_19, h_20, h_26]
          refine goal_markB 8 8 11 50 51 52 17 mk_31 (show ti g3.P 33 = some _ from ti_33) rfl rfl (by decide) (by simp [h_4, h_19, h_20, h_26]) (by simp [h_4, h_19, h_20, h_26]) (by simp [h_4, h_19, h_20, h_26]) (WfE.wfE _) (WfE.wfE _) (fun key hkey => by simp [mem0, key_low hkey 1 3 (by decide), key_low hkey 1 6 (by decide), key_low hkey 1 8 (by decide), key_low hkey 1 9 (by decide), h_4, h_19, h_20, h_26]) (by simp) (by simp) (by simp) rfl (by decide) fun σ_32 qq_33 hq_34 hx_35 hk_36 he_37 hd_38 hm_39 => ?_
          obtain ⟨q_40, q_41, q_42, q_43, q_44, q_45, q_46, q_47, q_48, q_49, q_50, q_51, q_52, q_53, q_54, q_55, q_56, q_57, q_58, q_59, q_60, q_61, q_62, q_63, q_64, q_65, q_66, q_67, q_68, q_69, q_70, q_71, q_72, q_73⟩ : σ_32.env 0 = .one (.s (.int .i64 aVars)) ∧ σ_32.env 3 = .one (.ptr (1, 3) 0) ∧ σ_32.env 4 = .one (.s (.bool false)) ∧ σ_32.env 5 = .one (.s (.int .i64 y_1)) ∧ σ_32.env 6 = .one (.ptr (1, 6) 0) ∧ σ_32.env 7 = .one (.s (.bool y_8.2)) ∧ σ_32.env 8 = .one (.ptr (1, 8) 0) ∧ σ_32.env 9 = .one (.ptr (1, 9) 0) ∧ σ_32.env 10 = .one (.s (.bool y_13.2)) ∧ σ_32.env 11 = .one (.s (.int .i64 r_27.2)) ∧ σ_32.env 16 = .ag [(.l .shr aS.nodes.length (encL aS.nodes)), (.l .shr aS.next.length (encL aS.next))] ∧ σ_32.env 17 = .one (.s (.int .i64 1048576)) ∧ σ_32.env 19 = .one (.s (.int .i64 y_1)) ∧ σ_32.env 20 = .one (.s (.bool (ltI y_1 0))) ∧ σ_32.env 22 = .one (.s (.int .i64 aVars)) ∧ σ_32.env 23 = .ag [(.l .shr aS.nodes.length (encL aS.nodes)), (.l .shr aS.next.length (encL aS.next))] ∧ σ_32.env 24 = .ag [(.l .own y_5.nodes.length (encL y_5.nodes)), (.l .own y_5.next.length (encL y_5.next))] ∧ σ_32.env 28 = .ag [(.l .shr aS.nodes.length (encL aS.nodes)), (.l .shr aS.next.length (encL aS.next))] ∧ σ_32.env 31 = .one (.s (.int .i64 aVars)) ∧ σ_32.env 38 = .one (.s (.bool y_16)) ∧ σ_32.env 39 = .one (.s (.bool (notB y_16))) ∧ σ_32.env 40 = .one (.s (.bool (notB y_16))) ∧ σ_32.env 41 = .one (.s (.bool y_13.2)) ∧ σ_32.env 42 = .one (.s (.bool y_8.2)) ∧ σ_32.env 43 = .one (.s (.bool (neB y_13.2 y_8.2))) ∧ σ_32.env 44 = .one (.s (.bool (neB y_13.2 y_8.2))) ∧ σ_32.env 46 = .ag [(.l .shr aS.nodes.length (encL aS.nodes)), (.l .shr aS.next.length (encL aS.next))] ∧ σ_32.env 47 = .ag [(.l .own y_5.nodes.length (encL y_5.nodes)), (.l .own y_5.next.length (encL y_5.next))] ∧ σ_32.env 48 = .one (.s (.bool y_23)) ∧ σ_32.env 49 = .one (.s (.bool (notB y_23))) ∧ σ_32.mem (1, 3) = some [(.l .shr aS.nodes.length (encL aS.nodes)), (.l .shr aS.next.length (encL aS.next))] ∧ σ_32.mem (1, 6) = some [(.l .own y_8.1.vars.length (encL y_8.1.vars)), (.l .own y_8.1.next.length (encL y_8.1.next))] ∧ σ_32.mem (1, 8) = some [(.l .own r_27.1.nodes.length (encL r_27.1.nodes)), (.l .own r_27.1.next.length (encL r_27.1.next))] ∧ σ_32.mem (1, 9) = some [(.l .own y_13.1.vars.length (encL y_13.1.vars)), (.l .own y_13.1.next.length (encL y_13.1.next))] := by refine ⟨(he_37 0 (by decide) (by decide) (by decide) (by decide)).trans ?_, (he_37 3 (by decide) (by decide) (by decide) (by decide)).trans ?_, (he_37 4 (by decide) (by decide) (by decide) (by decide)).trans ?_, (he_37 5 (by decide) (by decide) (by decide) (by decide)).trans ?_, (he_37 6 (by decide) (by decide) (by decide) (by decide)).trans ?_, (he_37 7 (by decide) (by decide) (by decide) (by decide)).trans ?_, (he_37 8 (by decide) (by decide) (by decide) (by decide)).trans ?_, (he_37 9 (by decide) (by decide) (by decide) (by decide)).trans ?_, (he_37 10 (by decide) (by decide) (by decide) (by decide)).trans ?_, hk_36, (he_37 16 (by decide) (by decide) (by decide) (by decide)).trans ?_, (he_37 17 (by decide) (by decide) (by decide) (by decide)).trans ?_, (he_37 19 (by decide) (by decide) (by decide) (by decide)).trans ?_, (he_37 20 (by decide) (by decide) (by decide) (by decide)).trans ?_, (he_37 22 (by decide) (by decide) (by decide) (by decide)).trans ?_, (he_37 23 (by decide) (by decide) (by decide) (by decide)).trans ?_, (he_37 24 (by decide) (by decide) (by decide) (by decide)).trans ?_, (he_37 28 (by decide) (by decide) (by decide) (by decide)).trans ?_, (he_37 31 (by decide) (by decide) (by decide) (by decide)).trans ?_, (he_37 38 (by decide) (by decide) (by decide) (by decide)).trans ?_, (he_37 39 (by decide) (by decide) (by decide) (by decide)).trans ?_, (he_37 40 (by decide) (by decide) (by decide) (by decide)).trans ?_, (he_37 41 (by decide) (by decide) (by decide) (by decide)).trans ?_, (he_37 42 (by decide) (by decide) (by decide) (by decide)).trans ?_, (he_37 43 (by decide) (by decide) (by decide) (by decide)).trans ?_, (he_37 44 (by decide) (by decide) (by decide) (by decide)).trans ?_, (he_37 46 (by decide) (by decide) (by decide) (by decide)).trans ?_, (he_37 47 (by decide) (by decide) (by decide) (by decide)).trans ?_, (he_37 48 (by decide) (by decide) (by decide) (by decide)).trans ?_, (he_37 49 (by decide) (by decide) (by decide) (by decide)).trans ?_, (hm_39 (1, 3) (by decide) (by decide) (by decide)).trans ?_, (hm_39 (1, 6) (by decide) (by decide) (by decide)).trans ?_, hx_35.trans (by simp), (hm_39 (1, 9) (by decide) (by decide) (by decide)).trans ?_⟩ <;> simp [h_4, h_19, h_20, h_26, hq_34 (1, 3) (by decide) (by decide), hq_34 (1, 6) (by decide) (by decide), hq_34 (1, 8) (by decide) (by decide), hq_34 (1, 9) (by decide) (by decide)]
          have hn_74 : NoBox [(1, 3), (1, 6), (1, 8), (1, 9)] σ_32.mem := by
            intro key hk
            by_cases hl : 1 < key.1 ∨ bigK ≤ key.2
            · exact hd_38 key hl
            · rw [hm_39 key (by rintro rfl; simp at hk) (by omega) (by omega)]
              simp at hk
              simp [mem0, hk, h_4, h_19, h_20, h_26]
          try simp [h_4, h_19, h_20, h_26, q_40, q_41, q_42, q_43, q_44, q_45, q_46, q_47, q_48, q_49, q_50, q_51, q_52, q_53, q_54, q_55, q_56, q_57, q_58, q_59, q_60, q_61, q_62, q_63, q_64, q_65, q_66, q_67, q_68, q_69, q_70, q_71, q_72, q_73]
          rcases cond_cases hp with ⟨h_75, hp⟩ | ⟨h_75, hp⟩
          · try simp at h_75
            cases hp
            simp [Goal, FnEnd, h_4, h_19, h_20, h_26, q_40, q_41, q_42, q_43, q_44, q_45, q_46, q_47, q_48, q_49, q_50, q_51, q_52, q_53, q_54, q_55, q_56, q_57, q_58, q_59, q_60, q_61, q_62, q_63, q_64, q_65, q_66, q_67, q_68, q_69, q_70, q_71, q_72, q_73, h_75]
          · try simp at h_75
            obtain ⟨y_76, h_77, hp⟩ := bind_some hp
            have c_78 := C15_eq h_77
            simp at c_78
            try simp [h_4, h_19, h_20, h_26, q_40, q_41, q_42, q_43, q_44, q_45, q_46, q_47, q_48, q_49, q_50, q_51, q_52, q_53, q_54, q_55, q_56, q_57, q_58, q_59, q_60, q_61, q_62, q_63, q_64, q_65, q_66, q_67, q_68, q_69, q_70, q_71, q_72, q_73, h_75, c_78]
            rcases cond_cases hp with ⟨h_79, hp⟩ | ⟨h_79, hp⟩
            · try simp at h_79
              obtain ⟨r_80, h_81, hp⟩ := bind_some hp
              obtain ⟨lg_82, e_83⟩ := markO_eq h_81
              have mk_84 := mk18 G_18 G_57 y_13.1 1 lg_82
              rw [e_83] at mk_84
              try simp [h_4, h_19, h_20, h_26, q_40, q_41, q_42, q_43, q_44, q_45, q_46, q_47, q_48, q_49, q_50, q_51, q_52, q_53, q_54, q_55, q_56, q_57, q_58, q_59, q_60, q_61, q_62, q_63, q_64, q_65, q_66, q_67, q_68, q_69, q_70, q_71, q_72, q_73, h_75, h_79]
              refine goal_markB 9 9 12 66 67 68 18 mk_84 (show ti g3.P 28 = some _ from ti_28) rfl rfl (by decide) (by simp [h_4, h_19, h_20, h_26, q_40, q_41, q_42, q_43, q_44, q_45, q_46, q_47, q_48, q_49, q_50, q_51, q_52, q_53, q_54, q_55, q_56, q_57, q_58, q_59, q_60, q_61, q_62, q_63, q_64, q_65, q_66, q_67, q_68, q_69, q_70, q_71, q_72, q_73, h_75, h_79]) (by simp [h_4, h_19, h_20, h_26, q_40, q_41, q_42, q_43, q_44, q_45, q_46, q_47, q_48, q_49, q_50, q_51, q_52, q_53, q_54, q_55, q_56, q_57, q_58, q_59, q_60, q_61, q_62, q_63, q_64, q_65, q_66, q_67, q_68, q_69, q_70, q_71, q_72, q_73, h_75, h_79]) (by simp [h_4, h_19, h_20, h_26, q_40, q_41, q_42, q_43, q_44, q_45, q_46, q_47, q_48, q_49, q_50, q_51, q_52, q_53, q_54, q_55, q_56, q_57, q_58, q_59, q_60, q_61, q_62, q_63, q_64, q_65, q_66, q_67, q_68, q_69, q_70, q_71, q_72, q_73, h_75, h_79]) (WfE.wfE _) (WfE.wfE _) (fun key hkey => by simp [mem0, key_low hkey 1 3 (by decide), key_low hkey 1 6 (by decide), key_low hkey 1 8 (by decide), key_low hkey 1 9 (by decide), h_4, h_19, h_20, h_26, q_40, q_41, q_42, q_43, q_44, q_45, q_46, q_47, q_48, q_49, q_50, q_51, q_52, q_53, q_54, q_55, q_56, q_57, q_58, q_59, q_60, q_61, q_62, q_63, q_64, q_65, q_66, q_67, q_68, q_69, q_70, q_71, q_72, q_73, h_75, h_79, hn_74 key (by simp [key_low hkey 1 3 (by decide), key_low hkey 1 6 (by decide), key_low hkey 1 8 (by decide), key_low hkey 1 9 (by decide)])]) (by simp) (by simp) (by simp) rfl (by decide) fun σ_85 qq_86 hq_87 hx_88 hk_89 he_90 hd_91 hm_92 => ?_
              obtain ⟨q_93, q_94, q_95, q_96, q_97, q_98, q_99, q_100, q_101, q_102, q_103, q_104, q_105, q_106, q_107, q_108, q_109, q_110, q_111, q_112, q_113, q_114, q_115, q_116, q_117, q_118, q_119, q_120, q_121, q_122, q_123, q_124, q_125, q_126, q_127, q_128, q_129, q_130, q_131, q_132, q_133, q_134, q_135, q_136, q_137, q_138⟩ : σ_85.env 0 = .one (.s (.int .i64 aVars)) ∧ σ_85.env 3 = .one (.ptr (1, 3) 0) ∧ σ_85.env 4 = .one (.s (.bool false)) ∧ σ_85.env 5 = .one (.s (.int .i64 y_1)) ∧ σ_85.env 6 = .one (.ptr (1, 6) 0) ∧ σ_85.env 7 = .one (.s (.bool y_8.2)) ∧ σ_85.env 8 = .one (.ptr (1, 8) 0) ∧ σ_85.env 9 = .one (.ptr (1, 9) 0) ∧ σ_85.env 10 = .one (.s (.bool y_13.2)) ∧ σ_85.env 11 = .one (.s (.int .i64 r_27.2)) ∧ σ_85.env 12 = .one (.s (.int .i64 r_80.2)) ∧ σ_85.env 16 = .ag [(.l .shr aS.nodes.length (encL aS.nodes)), (.l .shr aS.next.length (encL aS.next))] ∧ σ_85.env 17 = .one (.s (.int .i64 1048576)) ∧ σ_85.env 19 = .one (.s (.int .i64 y_1)) ∧ σ_85.env 20 = .one (.s (.bool (ltI y_1 0))) ∧ σ_85.env 22 = .one (.s (.int .i64 aVars)) ∧ σ_85.env 23 = .ag [(.l .shr aS.nodes.length (encL aS.nodes)), (.l .shr aS.next.length (encL aS.next))] ∧ σ_85.env 24 = .ag [(.l .own y_5.nodes.length (encL y_5.nodes)), (.l .own y_5.next.length (encL y_5.next))] ∧ σ_85.env 28 = .ag [(.l .shr aS.nodes.length (encL aS.nodes)), (.l .shr aS.next.length (encL aS.next))] ∧ σ_85.env 31 = .one (.s (.int .i64 aVars)) ∧ σ_85.env 38 = .one (.s (.bool y_16)) ∧ σ_85.env 39 = .one (.s (.bool (notB y_16))) ∧ σ_85.env 40 = .one (.s (.bool (notB y_16))) ∧ σ_85.env 41 = .one (.s (.bool y_13.2)) ∧ σ_85.env 42 = .one (.s (.bool y_8.2)) ∧ σ_85.env 43 = .one (.s (.bool (neB y_13.2 y_8.2))) ∧ σ_85.env 44 = .one (.s (.bool (neB y_13.2 y_8.2))) ∧ σ_85.env 46 = .ag [(.l .shr aS.nodes.length (encL aS.nodes)), (.l .shr aS.next.length (encL aS.next))] ∧ σ_85.env 47 = .ag [(.l .own y_5.nodes.length (encL y_5.nodes)), (.l .own y_5.next.length (encL y_5.next))] ∧ σ_85.env 48 = .one (.s (.bool y_23)) ∧ σ_85.env 49 = .one (.s (.bool (notB y_23))) ∧ σ_85.env 53 = .one (.s (.int .i64 r_27.2)) ∧ σ_85.env 54 = .one (.s (.bool (ltI r_27.2 0))) ∧ σ_85.env 55 = .one (.s (.bool (ltI r_27.2 0))) ∧ σ_85.env 58 = .one (.s (.bool y_76)) ∧ σ_85.env 59 = .one (.s (.bool (notB y_76))) ∧ σ_85.env 60 = .one (.s (.bool (notB y_76))) ∧ σ_85.env 61 = .one (.s (.bool (notB y_76))) ∧ σ_85.env 62 = .one (.s (.bool y_13.2)) ∧ σ_85.env 63 = .one (.s (.bool y_8.2)) ∧ σ_85.env 64 = .one (.s (.bool (neB y_13.2 y_8.2))) ∧ σ_85.env 65 = .one (.s (.bool (neB y_13.2 y_8.2))) ∧ σ_85.mem (1, 3) = some [(.l .shr aS.nodes.length (encL aS.nodes)), (.l .shr aS.next.length (encL aS.next))] ∧ σ_85.mem (1, 6) = some [(.l .own y_8.1.vars.length (encL y_8.1.vars)), (.l .own y_8.1.next.length (encL y_8.1.next))] ∧ σ_85.mem (1, 8) = some [(.l .own r_27.1.nodes.length (encL r_27.1.nodes)), (.l .own r_27.1.next.length (encL r_27.1.next))] ∧ σ_85.mem (1, 9) = some [(.l .own r_80.1.vars.length (encL r_80.1.vars)), (.l .own r_80.1.next.length (encL r_80.1.next))] := by refine ⟨(he_90 0 (by decide) (by decide) (by decide) (by decide)).trans ?_, (he_90 3 (by decide) (by decide) (by decide) (by decide)).trans ?_, (he_90 4 (by decide) (by decide) (by decide) (by decide)).trans ?_, (he_90 5 (by decide) (by decide) (by decide) (by decide)).trans ?_, (he_90 6 (by decide) (by decide) (by decide) (by decide)).trans ?_, (he_90 7 (by decide) (by decide) (by decide) (by decide)).trans ?_, (he_90 8 (by decide) (by decide) (by decide) (by decide)).trans ?_, (he_90 9 (by decide) (by decide) (by decide) (by decide)).trans ?_, (he_90 10 (by decide) (by decide) (by decide) (by decide)).trans ?_, (he_90 11 (by decide) (by decide) (by decide) (by decide)).trans ?_, hk_89, (he_90 16 (by decide) (by decide) (by decide) (by decide)).trans ?_, (he_90 17 (by decide) (by decide) (by decide) (by decide)).trans ?_, (he_90 19 (by decide) (by decide) (by decide) (by decide)).trans ?_, (he_90 20 (by decide) (by decide) (by decide) (by decide)).trans ?_, (he_90 22 (by decide) (by decide) (by decide) (by decide)).trans ?_, (he_90 23 (by decide) (by decide) (by decide) (by decide)).trans ?_, (he_90 24 (by decide) (by decide) (by decide) (by decide)).trans ?_, (he_90 28 (by decide) (by decide) (by decide) (by decide)).trans ?_, (he_90 31 (by decide) (by decide) (by decide) (by decide)).trans ?_, (he_90 38 (by decide) (by decide) (by decide) (by decide)).trans ?_, (he_90 39 (by decide) (by decide) (by decide) (by decide)).trans ?_, (he_90 40 (by decide) (by decide) (by decide) (by decide)).trans ?_, (he_90 41 (by decide) (by decide) (by decide) (by decide)).trans ?_, (he_90 42 (by decide) (by decide) (by decide) (by decide)).trans ?_, (he_90 43 (by decide) (by decide) (by decide) (by decide)).trans ?_, (he_90 44 (by decide) (by decide) (by decide) (by decide)).trans ?_, (he_90 46 (by decide) (by decide) (by decide) (by decide)).trans ?_, (he_90 47 (by decide) (by decide) (by decide) (by decide)).trans ?_, (he_90 48 (by decide) (by decide) (by decide) (by decide)).trans ?_, (he_90 49 (by decide) (by decide) (by decide) (by decide)).trans ?_, (he_90 53 (by decide) (by decide) (by decide) (by decide)).trans ?_, (he_90 54 (by decide) (by decide) (by decide) (by decide)).trans ?_, (he_90 55 (by decide) (by decide) (by decide) (by decide)).trans ?_, (he_90 58 (by decide) (by decide) (by decide) (by decide)).trans ?_, (he_90 59 (by decide) (by decide) (by decide) (by decide)).trans ?_, (he_90 60 (by decide) (by decide) (by decide) (by decide)).trans ?_, (he_90 61 (by decide) (by decide) (by decide) (by decide)).trans ?_, (he_90 62 (by decide) (by decide) (by decide) (by decide)).trans ?_, (he_90 63 (by decide) (by decide) (by decide) (by decide)).trans ?_, (he_90 64 (by decide) (by decide) (by decide) (by decide)).trans ?_, (he_90 65 (by decide) (by decide) (by decide) (by decide)).trans ?_, (hm_92 (1, 3) (by decide) (by decide) (by decide)).trans ?_, (hm_92 (1, 6) (by decide) (by decide) (by decide)).trans ?_, (hm_92 (1, 8) (by decide) (by decide) (by decide)).trans ?_, hx_88.trans (by simp)⟩ <;> simp [h_4, h_19, h_20, h_26, q_40, q_41, q_42, q_43, q_44, q_45, q_46, q_47, q_48, q_49, q_50, q_51, q_52, q_53, q_54, q_55, q_56, q_57, q_58, q_59, q_60, q_61, q_62, q_63, q_64, q_65, q_66, q_67, q_68, q_69, q_70, q_71, q_72, q_73, h_75, h_79, hq_87 (1, 3) (by decide) (by decide), hq_87 (1, 6) (by decide) (by decide), hq_87 (1, 8) (by decide) (by decide), hq_87 (1, 9) (by decide) (by decide)]
              have hn_139 : NoBox [(1, 3), (1, 6), (1, 8), (1, 9)] σ_85.mem := by
                intro key hk
                by_cases hl : 1 < key.1 ∨ bigK ≤ key.2
                · exact hd_91 key hl
                · rw [hm_92 key (by rintro rfl; simp at hk) (by omega) (by omega)]
                  simp at hk
                  simp [mem0, hk, h_4, h_19, h_20, h_26, q_40, q_41, q_42, q_43, q_44, q_45, q_46, q_47, q_48, q_49, q_50, q_51, q_52, q_53, q_54, q_55, q_56, q_57, q_58, q_59, q_60, q_61, q_62, q_63, q_64, q_65, q_66, q_67, q_68, q_69, q_70, q_71, q_72, q_73, h_75, h_79, hn_74 key (by simp [hk])]
              obtain ⟨y_140, h_141, hp⟩ := bind_some hp
              have c_142 := C19_eq h_141
              simp at c_142
              try simp [h_4, h_19, h_20, h_26, h_75, h_79, q_93, q_94, q_95, q_96, q_97, q_98, q_99, q_100, q_101, q_102, q_103, q_104, q_105, q_106, q_107, q_108, q_109, q_110, q_111, q_112, q_113, q_114, q_115, q_116, q_117, q_118, q_119, q_120, q_121, q_122, q_123, q_124, q_125, q_126, q_127, q_128, q_129, q_130, q_131, q_132, q_133, q_134, q_135, q_136, q_137, q_138, c_142]
              rcases cond_cases hp with ⟨h_143, hp⟩ | ⟨h_143, hp⟩
              · try simp at h_143
                cases hp
                simp [Goal, FnEnd, h_4, h_19, h_20, h_26, h_75, h_79, q_93, q_94, q_95, q_96, q_97, q_98, q_99, q_100, q_101, q_102, q_103, q_104, q_105, q_106, q_107, q_108, q_109, q_110, q_111, q_112, q_113, q_114, q_115, q_116, q_117, q_118, q_119, q_120, q_121, q_122, q_123, q_124, q_125, q_126, q_127, q_128, q_129, q_130, q_131, q_132, q_133, q_134, q_135, q_136, q_137, q_138, h_143]
              · try simp at h_143
                try simp [h_4, h_19, h_20, h_26, h_75, h_79, q_93, q_94, q_95, q_96, q_97, q_98, q_99, q_100, q_101, q_102, q_103, q_104, q_105, q_106, q_107, q_108, q_109, q_110, q_111, q_112, q_113, q_114, q_115, q_116, q_117, q_118, q_119, q_120, q_121, q_122, q_123, q_124, q_125, q_126, q_127, q_128, q_129, q_130, q_131, q_132, q_133, q_134, q_135, q_136, q_137, q_138, h_143]
                rcases cond_cases hp with ⟨h_144, hp⟩ | ⟨h_144, hp⟩
                · try simp at h_144
                  cases hp
                  simp [Goal, FnEnd, h_4, h_19, h_20, h_26, h_75, h_79, q_93, q_94, q_95, q_96, q_97, q_98, q_99, q_100, q_101, q_102, q_103, q_104, q_105, q_106, q_107, q_108, q_109, q_110, q_111, q_112, q_113, q_114, q_115, q_116, q_117, q_118, q_119, q_120, q_121, q_122, q_123, q_124, q_125, q_126, q_127, q_128, q_129, q_130, q_131, q_132, q_133, q_134, q_135, q_136, q_137, q_138, h_143, h_144]
                · try simp at h_144
                  obtain ⟨y_145, h_146, hp⟩ := bind_some hp
                  have c_147 := C13_eq h_146
                  simp at c_147
                  obtain ⟨y_148, h_149, hp⟩ := bind_some hp
                  have c_150 := C14_eq h_149
                  simp at c_150
                  have n_151 := hn_139 (1, 14) (by simp)
                  obtain ⟨y_152, h_153, hp⟩ := bind_some hp
                  have c_154 := C15_eq h_153
                  simp at c_154
                  try simp [h_4, h_19, h_20, h_26, h_75, h_79, q_93, q_94, q_95, q_96, q_97, q_98, q_99, q_100, q_101, q_102, q_103, q_104, q_105, q_106, q_107, q_108, q_109, q_110, q_111, q_112, q_113, q_114, q_115, q_116, q_117, q_118, q_119, q_120, q_121, q_122, q_123, q_124, q_125, q_126, q_127, q_128, q_129, q_130, q_131, q_132, q_133, q_134, q_135, q_136, q_137, q_138, h_143, h_144, c_147, c_150, n_151, c_154]
                  rcases cond_cases hp with ⟨h_155, hp⟩ | ⟨h_155, hp⟩
                  · try simp at h_155
                    try simp [h_4, h_19, h_20, h_26, h_75, h_79, q_93, q_94, q_95, q_96, q_97, q_98, q_99, q_100, q_101, q_102, q_103, q_104, q_105, q_106, q_107, q_108, q_109, q_110, q_111, q_112, q_113, q_114, q_115, q_116, q_117, q_118, q_119, q_120, q_121, q_122, q_123, q_124, q_125, q_126, q_127, q_128, q_129, q_130, q_131, q_132, q_133, q_134, q_135, q_136, q_137, q_138, h_143, h_144, h_155]
                    rcases cond_cases hp with ⟨h_156, hp⟩ | ⟨h_156, hp⟩
                    · try simp at h_156
                      cases hp
                      simp [Goal, FnEnd, h_4, h_19, h_20, h_26, h_75, h_79, q_93, q_94, q_95, q_96, q_97, q_98, q_99, q_100, q_101, q_102, q_103, q_104, q_105, q_106, q_107, q_108, q_109, q_110, q_111, q_112, q_113, q_114, q_115, q_116, q_117, q_118, q_119, q_120, q_121, q_122, q_123, q_124, q_125, q_126, q_127, q_128, q_129, q_130, q_131, q_132, q_133, q_134, q_135, q_136, q_137, q_138, h_143, h_144, h_155, h_156]
                    · try simp at h_156
                      obtain ⟨y_157, h_158, hp⟩ := bind_some hp
                      cases Option.some.inj (h_141.symm.trans h_158)
                      cases hp
                      simp [Goal, FnEnd, h_4, h_19, h_20, h_26, h_75, h_79, q_93, q_94, q_95, q_96, q_97, q_98, q_99, q_100, q_101, q_102, q_103, q_104, q_105, q_106, q_107, q_108, q_109, q_110, q_111, q_112, q_113, q_114, q_115, q_116, q_117, q_118, q_119, q_120, q_121, q_122, q_123, q_124, q_125, q_126, q_127, q_128, q_129, q_130, q_131, q_132, q_133, q_134, q_135, q_136, q_137, q_138, h_143, h_144, h_155, h_156, c_142]
                  · try simp at h_155
                    cases hp
                    simp [Goal, FnEnd, h_4, h_19, h_20, h_26, h_75, h_79, q_93, q_94, q_95, q_96, q_97, q_98, q_99, q_100, q_101, q_102, q_103, q_104, q_105, q_106, q_107, q_108, q_109, q_110, q_111, q_112, q_113, q_114, q_115, q_116, q_117, q_118, q_119, q_120, q_121, q_122, q_123, q_124, q_125, q_126, q_127, q_128, q_129, q_130, q_131, q_132, q_133, q_134, q_135, q_136, q_137, q_138, h_143, h_144, h_155]
            · try simp at h_79
              cases hp
              simp [Goal, FnEnd, h_4, h_19, h_20, h_26, q_40, q_41, q_42, q_43, q_44, q_45, q_46, q_47, q_48, q_49, q_50, q_51, q_52, q_53, q_54, q_55, q_56, q_57, q_58, q_59, q_60, q_61, q_62, q_63, q_64, q_65, q_66, q_67, q_68, q_69, q_70, q_71, q_72, q_73, h_75, h_79]
        · try simp at h_26
          cases hp
          simp [Goal, FnEnd, h_4, h_19, h_20, h_26]
    · try simp at h_19
      cases hp
      simp [Goal, FnEnd, h_4, h_19]
theorem pc3 : PC Try.prog 3 C3 := pc_of (g := g3) (ctxOK_of [(11, C11), (12, C12), (13, C13), (14, C14), (15, C15), (16, C16), (19, C19)] rfl ⟨pc11, pc12, pc13, pc14, pc15, pc16, pc19, trivial⟩) ⟨Try.f3, Try.func3, by kernel_rfl, by kernel_rfl⟩ fun x y h => w3 h
end Go.Proofs


namespace Go.Proofs
open Go.Ev
noncomputable def C25 : List AV → Option AV := specP (X := (List TStructure) × Int × Unit) fun x => laws_szStructureS x.1 x.2.1
noncomputable def g25 : Cfg := { P := Try.prog, take := [], keep := [((25, 5), { hd := [0, 1, 5], bx := [], ex := [1], rt := [4] })], gho := [], ctx := [(11, C11)] }
@[simp] theorem g25_P : g25.P = Try.prog := rfl
@[simp] theorem g25_t : g25.take = [] := rfl
@[simp] theorem g25_g : g25.gho = [] := rfl
@[simp] theorem g25_r : g25.ro = [] := rfl
@[simp] theorem g25_w : g25.away = [] := by rw [g25]
@[simp] theorem g25_11 : lookN 11 g25.ctx = some C11 := rfl
noncomputable def C27 : List AV → Option AV := specP (X := (List TStructure) × Unit) fun x => laws_toStructureS x.1
noncomputable def g27 : Cfg := { P := Try.prog, take := [(27, 7)], keep := [((27, 3), { hd := [0, 3, 4], bx := [], ex := [3], rt := [2] })], gho := [((27, atEnd), [.frz (.sl 2 0)])], ctx := [(13, C13)] }
@[simp] theorem g27_P : g27.P = Try.prog := rfl
@[simp] theorem g27_t : g27.take = [(27, 7)] := rfl
@[simp] theorem g27_g : g27.gho = [((27, atEnd), [.frz (.sl 2 0)])] := rfl
@[simp] theorem g27_r : g27.ro = [] := rfl
@[simp] theorem g27_w : g27.away = [] := by rw [g27]
@[simp] theorem g27_13 : lookN 13 g27.ctx = some C13 := rfl
noncomputable def C29 : List AV → Option AV := specP (X := (List THeap) × (List THeap) × Unit) fun x => laws_eqHeapS x.1 x.2.1
noncomputable def g29 : Cfg := { P := Try.prog, take := [], keep := [((29, 4), { hd := [0, 1, 5], bx := [], ex := [], rt := [4] })], gho := [], ctx := [(15, C15)] }
@[simp] theorem g29_P : g29.P = Try.prog := rfl
@[simp] theorem g29_t : g29.take = [] := rfl
@[simp] theorem g29_g : g29.gho = [] := rfl
@[simp] theorem g29_r : g29.ro = [] := rfl
@[simp] theorem g29_w : g29.away = [] := by rw [g29]
@[simp] theorem g29_15 : lookN 15 g29.ctx = some C15 := rfl
noncomputable def C30 : List AV → Option AV := specP (X := (List TStructure) × (List TStructure) × Unit) fun x => laws_eqStructureS x.1 x.2.1
noncomputable def g30 : Cfg := { P := Try.prog, take := [], keep := [((30, 4), { hd := [0, 1, 5], bx := [], ex := [], rt := [4] })], gho := [], ctx := [(16, C16)] }
@[simp] theorem g30_P : g30.P = Try.prog := rfl
@[simp] theorem g30_t : g30.take = [] := rfl
@[simp] theorem g30_g : g30.gho = [] := rfl
@[simp] theorem g30_r : g30.ro = [] := rfl
@[simp] theorem g30_w : g30.away = [] := by rw [g30]
@[simp] theorem g30_16 : lookN 16 g30.ctx = some C16 := rfl
noncomputable def C33 : List AV → Option AV := specP (X := (List THeap) × Int × Unit) fun x => laws_heldHeapS x.1 x.2.1
noncomputable def g33 : Cfg := { P := Try.prog, take := [], keep := [((33, 2), { hd := [0, 1, 5], bx := [], ex := [1], rt := [4] })], gho := [], ctx := [(58, C58)] }
@[simp] theorem g33_P : g33.P = Try.prog := rfl
@[simp] theorem g33_t : g33.take = [] := rfl
@[simp] theorem g33_g : g33.gho = [] := rfl
@[simp] theorem g33_r : g33.ro = [] := rfl
@[simp] theorem g33_w : g33.away = [] := by rw [g33]
@[simp] theorem g33_58 : lookN 58 g33.ctx = some C58 := rfl
noncomputable def g6 : Cfg := { P := Try.prog, take := [], keep := [((31, 2), rowKp), ((56, 2), rowKp), ((57, 2), rowKp), ((32, 2), rowKp)], gho := [((6, 13), [.many (thawSlot 1 9)]), ((6, 2000013), [.many (frzSlot 1 9)]), ((6, 17), [.many (thawSlot 1 10)]), ((6, 2000017), [.many (frzSlot 1 10)])], ctx := [(25, C25), (26, C26), (27, C27), (28, C28), (29, C29), (30, C30), (33, C33)] }
@[simp] theorem g6_P : g6.P = Try.prog := rfl
@[simp] theorem g6_t : g6.take = [] := rfl
@[simp] theorem g6_g : g6.gho = [((6, 13), [.many (thawSlot 1 9)]), ((6, 2000013), [.many (frzSlot 1 9)]), ((6, 17), [.many (thawSlot 1 10)]), ((6, 2000017), [.many (frzSlot 1 10)])] := rfl
@[simp] theorem g6_r : g6.ro = [] := rfl
@[simp] theorem g6_w : g6.away = [] := by rw [g6]
@[simp] theorem g6_25 : lookN 25 g6.ctx = some C25 := rfl
@[simp] theorem g6_26 : lookN 26 g6.ctx = some C26 := rfl
@[simp] theorem g6_27 : lookN 27 g6.ctx = some C27 := rfl
@[simp] theorem g6_28 : lookN 28 g6.ctx = some C28 := rfl
@[simp] theorem g6_29 : lookN 29 g6.ctx = some C29 := rfl
@[simp] theorem g6_30 : lookN 30 g6.ctx = some C30 := rfl
@[simp] theorem g6_33 : lookN 33 g6.ctx = some C33 := rfl
@[simp] theorem g6_31 : lookN 31 g6.ctx = none := rfl
@[simp] theorem g6_56 : lookN 56 g6.ctx = none := rfl
@[simp] theorem g6_57 : lookN 57 g6.ctx = none := rfl
@[simp] theorem g6_32 : lookN 32 g6.ctx = none := rfl
end Go.Proofs

