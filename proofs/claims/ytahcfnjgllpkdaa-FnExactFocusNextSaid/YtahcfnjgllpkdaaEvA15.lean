import Derived.Test.YtahcfnjgllpkdaaEvA14
set_option linter.unusedSimpArgs false
set_option linter.unusedVariables false
set_option linter.unnecessarySimpa false
namespace Go.Proofs
open Go.Ev
noncomputable def C124 : List AV → Option AV := specP (X := Bool × Unit) fun x => spec_l3Of x.1
theorem C124_eq {on} {y} (h : spec_l3Of on = some y) : C124 [av .shr on] = some (Res.res y) := specP_eq (X := Bool × Unit) (F := fun x => spec_l3Of x.1) (x := (on, ())) h
noncomputable def g124 : Cfg := { P := Try.prog, take := [], keep := [], gho := [], ctx := [] }
@[simp] theorem g124_P : g124.P = Try.prog := rfl
@[simp] theorem g124_t : g124.take = [] := rfl
@[simp] theorem g124_g : g124.gho = [] := rfl
@[simp] theorem g124_r : g124.ro = [] := rfl
@[simp] theorem g124_w : g124.away = [] := by rw [g124]
set_option maxHeartbeats 4000000 in
set_option maxRecDepth 100000 in
theorem w124 {on} {y} (hp : spec_l3Of on = some y) : ∃ m, callo g124 0 124 [av .shr on] mem0 = some (Res.res y, m) := by
  refine start_fn (Try.f124.body.getD .skip) [.tmp 2] rfl rfl Try.func124 (by kernel_rfl) (by kernel_rfl) (by simp [Try.ntmps124]) rfl ?_
  unfold spec_l3Of at hp
  simp [Try.f124]
  rcases cond_cases hp with ⟨h_1, hp⟩ | ⟨h_1, hp⟩
  · try simp at h_1
    cases hp
    simp [Goal, FnEnd, h_1]
  · try simp at h_1
    cases hp
    simp [Goal, FnEnd, h_1]
theorem pc124 : PC Try.prog 124 C124 := pc_of (g := g124) (fun f F h => by cases h) ⟨Try.f124, Try.func124, by kernel_rfl, by kernel_rfl⟩ fun x y h => w124 h

noncomputable def C73 : List AV → Option AV := specP (X := TStructure × Int × Int × Unit) fun x => spec_l19To x.1 x.2.1 x.2.2.1
theorem C73_eq {s b_ t} {y} (h : spec_l19To s b_ t = some y) : C73 [av .shr s, av .shr b_, av .shr t] = some (Res.res y) := specP_eq (X := TStructure × Int × Int × Unit) (F := fun x => spec_l19To x.1 x.2.1 x.2.2.1) (x := (s, b_, t, ())) h
noncomputable def g73 : Cfg := { P := Try.prog, take := [], keep := [((73, 4), { hd := [1, 2, 6, 7, 8, 9], bx := [], ex := [2, 6, 7], rt := [6] })], gho := [((73, atEnd), [.frz (.at 6 0), .frz (.at 6 1)]), ((73, 2000001), [.thaw (.at 7 0) 1112 4, .thaw (.at 7 1) 1113 1])], ctx := [(70, C70), (124, C124)] }
@[simp] theorem g73_P : g73.P = Try.prog := rfl
@[simp] theorem g73_t : g73.take = [] := rfl
@[simp] theorem g73_g : g73.gho = [((73, atEnd), [.frz (.at 6 0), .frz (.at 6 1)]), ((73, 2000001), [.thaw (.at 7 0) 1112 4, .thaw (.at 7 1) 1113 1])] := rfl
@[simp] theorem g73_r : g73.ro = [] := rfl
@[simp] theorem g73_w : g73.away = [] := by rw [g73]
@[simp] theorem g73_70 : lookN 70 g73.ctx = some C70 := rfl
@[simp] theorem g73_124 : lookN 124 g73.ctx = some C124 := rfl
set_option maxHeartbeats 4000000 in
set_option maxRecDepth 100000 in
theorem w73 {s b_ t} {y} (hp : spec_l19To s b_ t = some y) : ∃ m, callo g73 0 73 [av .shr s, av .shr b_, av .shr t] mem0 = some (Res.res y, m) := by
  refine start_fn (Try.f73.body.getD .skip) [.cell 6 52] rfl rfl Try.func73 (by kernel_rfl) (by kernel_rfl) (by simp [Try.ntmps73]) rfl ?_
  unfold spec_l19To at hp
  obtain ⟨y_1, h_2, hp⟩ := bind_some hp
  have c_3 := C70_eq h_2
  simp at c_3
  simp [Try.f73, c_3]
  try simp
  try simp
  obtain ⟨r_31, h_32, hp⟩ := bind_some hp
  obtain ⟨I_6, I_6_⟩ : ∃ I : Int × (List Int) → St → Prop, I = (fun (s_4 : Int × (List Int)) (σ : St) => σ.env 1 = .one (.s (.int .i64 b_)) ∧ σ.env 2 = .one (.s (.int .i64 t)) ∧ σ.env 6 = .one (.ptr (1, 6) 0) ∧ σ.env 7 = .one (.ptr (1, 7) 0) ∧ σ.env 8 = .one (.s (.int .i64 (s.nodes.length : Int))) ∧ σ.env 9 = .one (.s (.int .i64 s_4.1)) ∧ σ.mem (1, 3) = some [(.l .shr s.nodes.length (encL s.nodes)), (.l .shr s.next.length (encL s.next))] ∧ σ.mem (1, 6) = some [(.l .own 0 []), (.l .own 0 [])] ∧ σ.mem (1, 7) = some [(.bs (1, 1112) y_1.nodes.length 4), (.bs (1, 1113) s_4.2.length 1)] ∧ σ.mem (1, 1112) = some (rowC y_1.nodes) ∧ σ.mem (1, 1113) = some (rowC s_4.2) ∧ NoBox [(1, 3), (1, 6), (1, 7), (1, 1112), (1, 1113)] σ.mem) := ⟨_, rfl⟩
  obtain ⟨X_7, X_7_⟩ : ∃ X : (List Int) → Out → Prop, X = (fun (r_31 : (List Int)) (out : Out) => ∃ σ : St, out = .exit 0 σ ∧ σ.env 2 = .one (.s (.int .i64 t)) ∧ σ.env 6 = .one (.ptr (1, 6) 0) ∧ σ.env 7 = .one (.ptr (1, 7) 0) ∧ σ.mem (1, 3) = some [(.l .shr s.nodes.length (encL s.nodes)), (.l .shr s.next.length (encL s.next))] ∧ σ.mem (1, 6) = some [(.l .own 0 []), (.l .own 0 [])] ∧ σ.mem (1, 7) = some [(.bs (1, 1112) y_1.nodes.length 4), (.bs (1, 1113) r_31.length 1)] ∧ σ.mem (1, 1112) = some (rowC y_1.nodes) ∧ σ.mem (1, 1113) = some (rowC r_31) ∧ NoBox [(1, 3), (1, 6), (1, 7), (1, 1112), (1, 1113)] σ.mem) := ⟨_, rfl⟩
  refine loopP ({ hd := [1, 2, 6, 7, 8, 9], bx := [], ex := [2, 6, 7], rt := [6] }) I_6 X_7 h_32 (by exact rfl) ?_ ?_ ?_
  · rw [I_6_]
    exact ⟨by simp [restrict_env], by simp [restrict_env], by simp [restrict_env], by simp [restrict_env], by simp [restrict_env], by simp [restrict_env], by simp [restrict_mem], by simp [restrict_mem], by simp [restrict_mem], by simp [restrict_mem], by simp [restrict_mem], NoBox.restrict (by intro k hk hb; simp at hk hb; simp [hk, hb])⟩
  · intro s_4 σ_8 a_5 hI hp
    rw [I_6_] at hI
    obtain ⟨q_9, q_10, q_11, q_12, q_13, q_14, q_15, q_16, q_17, q_18, q_19, hn_20⟩ := hI
    try simp [q_9, q_10, q_11, q_12, q_13, q_14, q_15, q_16, q_17, q_18, q_19]
    rcases cond_cases hp with ⟨h_21, hp⟩ | ⟨h_21, hp⟩
    · try simp at h_21
      obtain ⟨y_22, h_23, hp⟩ := bind_some hp
      have c_24 := C124_eq h_23
      simp at c_24
      obtain ⟨e_25, h_26, hp⟩ := bind_some hp
      have b_27 := at_lo h_26
      have b_28 := at_hi h_26
      try simp at b_27
      try simp at b_28
      have c_29 := splice_row h_26 0 y_22 [(.s (.int .i64 y_22))] (by simp) rfl
      try simp at c_29
      have l_30 := row_room h_26 0 (m := 1) (by decide)
      try simp at l_30
      cases hp
      try simp [q_9, q_10, q_11, q_12, q_13, q_14, q_15, q_16, q_17, q_18, q_19, h_21, c_24, b_27, b_28, c_29, l_30]
      refine goal_next ?_
      rw [I_6_]
      exact ⟨by simp [restrict_env, q_9, q_10, q_11, q_12, q_13, q_14, q_15, q_16, q_17, q_18, q_19, h_21, c_24, b_27, b_28, c_29, l_30], by simp [restrict_env, q_9, q_10, q_11, q_12, q_13, q_14, q_15, q_16, q_17, q_18, q_19, h_21, c_24, b_27, b_28, c_29, l_30], by simp [restrict_env, q_9, q_10, q_11, q_12, q_13, q_14, q_15, q_16, q_17, q_18, q_19, h_21, c_24, b_27, b_28, c_29, l_30], by simp [restrict_env, q_9, q_10, q_11, q_12, q_13, q_14, q_15, q_16, q_17, q_18, q_19, h_21, c_24, b_27, b_28, c_29, l_30], by simp [restrict_env, q_9, q_10, q_11, q_12, q_13, q_14, q_15, q_16, q_17, q_18, q_19, h_21, c_24, b_27, b_28, c_29, l_30], by simp [restrict_env, q_9, q_10, q_11, q_12, q_13, q_14, q_15, q_16, q_17, q_18, q_19, h_21, c_24, b_27, b_28, c_29, l_30], by simp [restrict_mem, q_9, q_10, q_11, q_12, q_13, q_14, q_15, q_16, q_17, q_18, q_19, h_21, c_24, b_27, b_28, c_29, l_30], by simp [restrict_mem, q_9, q_10, q_11, q_12, q_13, q_14, q_15, q_16, q_17, q_18, q_19, h_21, c_24, b_27, b_28, c_29, l_30], by simp [restrict_mem, q_9, q_10, q_11, q_12, q_13, q_14, q_15, q_16, q_17, q_18, q_19, h_21, c_24, b_27, b_28, c_29, l_30], by simp [restrict_mem, q_9, q_10, q_11, q_12, q_13, q_14, q_15, q_16, q_17, q_18, q_19, h_21, c_24, b_27, b_28, c_29, l_30], by simp [restrict_mem, q_9, q_10, q_11, q_12, q_13, q_14, q_15, q_16, q_17, q_18, q_19, h_21, c_24, b_27, b_28, c_29, l_30], NoBox.restrict (by intro k hk hb; simp at hk hb; simp [hk, hb, q_9, q_10, q_11, q_12, q_13, q_14, q_15, q_16, q_17, q_18, q_19, h_21, c_24, b_27, b_28, c_29, l_30, hn_20 k (by simp [hk, hb])])⟩
    · try simp at h_21
      cases hp
      try simp [q_9, q_10, q_11, q_12, q_13, q_14, q_15, q_16, q_17, q_18, q_19, h_21]
      refine goal_outX ?_
      rw [X_7_]
      exact ⟨_, rfl, by simp [restrict_env, q_9, q_10, q_11, q_12, q_13, q_14, q_15, q_16, q_17, q_18, q_19, h_21], by simp [restrict_env, q_9, q_10, q_11, q_12, q_13, q_14, q_15, q_16, q_17, q_18, q_19, h_21], by simp [restrict_env, q_9, q_10, q_11, q_12, q_13, q_14, q_15, q_16, q_17, q_18, q_19, h_21], by simp [restrict_mem, q_9, q_10, q_11, q_12, q_13, q_14, q_15, q_16, q_17, q_18, q_19, h_21], by simp [restrict_mem, q_9, q_10, q_11, q_12, q_13, q_14, q_15, q_16, q_17, q_18, q_19, h_21], by simp [restrict_mem, q_9, q_10, q_11, q_12, q_13, q_14, q_15, q_16, q_17, q_18, q_19, h_21], by simp [restrict_mem, q_9, q_10, q_11, q_12, q_13, q_14, q_15, q_16, q_17, q_18, q_19, h_21], by simp [restrict_mem, q_9, q_10, q_11, q_12, q_13, q_14, q_15, q_16, q_17, q_18, q_19, h_21], NoBox.restrict (by intro k hk hb; simp at hk hb; simp [hk, hb, q_9, q_10, q_11, q_12, q_13, q_14, q_15, q_16, q_17, q_18, q_19, h_21, hn_20 k (by simp [hk, hb])])⟩
  · intro out hX
    rw [X_7_] at hX
    obtain ⟨σ_33, rfl, q_34, q_35, q_36, q_37, q_38, q_39, q_40, q_41, hn_42⟩ := hX
    try simp [q_34, q_35, q_36, q_37, q_38, q_39, q_40, q_41]
    rcases cond_cases hp with ⟨h_43, hp⟩ | ⟨h_43, hp⟩
    · try simp at h_43
      obtain ⟨e_44, h_45, hp⟩ := bind_some hp
      have b_46 := at_lo h_45
      have b_47 := at_hi h_45
      try simp at b_46
      try simp at b_47
      have c_48 := splice_row h_45 3 (⟨e_44.vars, e_44.reach, e_44.shared, 0⟩ : TNode) [(.s (.int .i64 0))] (by simp) rfl
      try simp at c_48
      have l_49 := row_room h_45 3 (m := 1) (by decide)
      try simp at l_49
      cases hp
      simp [Goal, FnEnd, retR, rsrc, RSrc.val, nodupR, nodup, tupPart, q_34, q_35, q_36, q_37, q_38, q_39, q_40, q_41, h_43, b_46, b_47, c_48, l_49]
    · try simp at h_43
      cases hp
      simp [Goal, FnEnd, retR, rsrc, RSrc.val, nodupR, nodup, tupPart, q_34, q_35, q_36, q_37, q_38, q_39, q_40, q_41, h_43]
theorem pc73 : PC Try.prog 73 C73 := pc_of (g := g73) (ctxOK_of [(70, C70), (124, C124)] rfl ⟨pc70, pc124, trivial⟩) ⟨Try.f73, Try.func73, by kernel_rfl, by kernel_rfl⟩ fun x y h => w73 h

noncomputable def C125 : List AV → Option AV := specP (X := TStructure × Int × Unit) fun x => spec_l19Split x.1 x.2.1
theorem C125_eq {s t} {y} (h : spec_l19Split s t = some y) : C125 [av .shr s, av .shr t] = some (Res.res y) := specP_eq (X := TStructure × Int × Unit) (F := fun x => spec_l19Split x.1 x.2.1) (x := (s, t, ())) h
noncomputable def g125 : Cfg := { P := Try.prog, take := [(125, 22), (125, 32), (125, 37), (125, 47), (125, 62), (125, 76)], keep := [((125, 5), { hd := [1, 2, 4, 5, 6, 7, 8], bx := [], ex := [1, 2, 4, 5, 6, 7], rt := [4] }), ((125, 12), { hd := [2, 4, 5, 6, 7, 9], bx := [], ex := [4, 6], rt := [4] }), ((125, 15), { hd := [2, 4, 5, 6, 7, 9, 10], bx := [], ex := [2, 4, 5, 6, 7, 9], rt := [4] })], gho := [], ctx := [(72, C72), (123, C123)] }
@[simp] theorem g125_P : g125.P = Try.prog := rfl
@[simp] theorem g125_t : g125.take = [(125, 22), (125, 32), (125, 37), (125, 47), (125, 62), (125, 76)] := rfl
@[simp] theorem g125_g : g125.gho = [] := rfl
@[simp] theorem g125_r : g125.ro = [] := rfl
@[simp] theorem g125_w : g125.away = [] := by rw [g125]
@[simp] theorem g125_72 : lookN 72 g125.ctx = some C72 := rfl
@[simp] theorem g125_123 : lookN 123 g125.ctx = some C123 := rfl
set_option maxHeartbeats 4000000 in
set_option maxRecDepth 100000 in
theorem w125 {s t} {y} (hp : spec_l19Split s t = some y) : ∃ m, callo g125 0 125 [av .shr s, av .shr t] mem0 = some (Res.res y, m) := by
  refine start_fn (Try.f125.body.getD .skip) [.cell 4 52] rfl rfl Try.func125 (by kernel_rfl) (by kernel_rfl) (by simp [Try.ntmps125]) rfl ?_
  unfold spec_l19Split at hp
  simp [Try.f125]
  obtain ⟨r_30, h_31, hp⟩ := bind_some hp
  obtain ⟨I_3, I_3_⟩ : ∃ I : (List Int) × Int × (List TNode) → St → Prop, I = (fun (s_1 : (List Int) × Int × (List TNode)) (σ : St) => σ.env 1 = .one (.s (.int .i64 t)) ∧ σ.env 2 = .one (.ptr (1, 2) 0) ∧ σ.env 4 = .one (.ptr (1, 4) 0) ∧ σ.env 5 = .one (.s (.int .i64 (s.nodes.length : Int))) ∧ σ.env 6 = .one (.ptr (1, 6) 0) ∧ σ.env 7 = .one (.l .own s_1.1.length (encL s_1.1)) ∧ σ.env 8 = .one (.s (.int .i64 s_1.2.1)) ∧ σ.mem (1, 2) = some [(.l .shr s.nodes.length (encL s.nodes)), (.l .shr s.next.length (encL s.next))] ∧ σ.mem (1, 4) = some [(.l .own 0 []), (.l .own 0 [])] ∧ σ.mem (1, 6) = some [(.l .own s_1.2.2.length (encL s_1.2.2)), (.l .own 0 [])] ∧ NoBox [(1, 2), (1, 4), (1, 6)] σ.mem) := ⟨_, rfl⟩
  obtain ⟨X_4, X_4_⟩ : ∃ X : ((List Int) × (List TNode)) → Out → Prop, X = (fun (r_30 : (List Int) × (List TNode)) (out : Out) => ∃ σ : St, out = .exit 0 σ ∧ σ.env 1 = .one (.s (.int .i64 t)) ∧ σ.env 2 = .one (.ptr (1, 2) 0) ∧ σ.env 4 = .one (.ptr (1, 4) 0) ∧ σ.env 5 = .one (.s (.int .i64 (s.nodes.length : Int))) ∧ σ.env 6 = .one (.ptr (1, 6) 0) ∧ σ.env 7 = .one (.l .own r_30.1.length (encL r_30.1)) ∧ σ.mem (1, 2) = some [(.l .shr s.nodes.length (encL s.nodes)), (.l .shr s.next.length (encL s.next))] ∧ σ.mem (1, 4) = some [(.l .own 0 []), (.l .own 0 [])] ∧ σ.mem (1, 6) = some [(.l .own r_30.2.length (encL r_30.2)), (.l .own 0 [])] ∧ NoBox [(1, 2), (1, 4), (1, 6)] σ.mem) := ⟨_, rfl⟩
  refine loopP ({ hd := [1, 2, 4, 5, 6, 7, 8], bx := [], ex := [1, 2, 4, 5, 6, 7], rt := [4] }) I_3 X_4 h_31 (by exact rfl) ?_ ?_ ?_
  · rw [I_3_]
    exact ⟨by simp [restrict_env], by simp [restrict_env], by simp [restrict_env], by simp [restrict_env], by simp [restrict_env], by simp [restrict_env], by simp [restrict_env], by simp [restrict_mem], by simp [restrict_mem], by simp [restrict_mem], NoBox.restrict (by intro k hk hb; simp at hk hb; simp [hk, hb])⟩
  · intro s_1 σ_5 a_2 hI hp
    rw [I_3_] at hI
    obtain ⟨q_6, q_7, q_8, q_9, q_10, q_11, q_12, q_13, q_14, q_15, hn_16⟩ := hI
    try simp [q_6, q_7, q_8, q_9, q_10, q_11, q_12, q_13, q_14, q_15]
    rcases cond_cases hp with ⟨h_17, hp⟩ | ⟨h_17, hp⟩
    · try simp at h_17
      obtain ⟨e_18, h_19, hp⟩ := bind_some hp
      have b_20 := at_lo h_19
      have b_21 := at_hi h_19
      try simp at b_20
      try simp at b_21
      have c_22 := seg_at' h_19 0 4 (by decide) (ds := [.sl e_18.vars.length (encL e_18.vars), .sl e_18.reach.length (encL e_18.reach), .sc (.int .i64 e_18.shared), .sc (.int .i64 e_18.many)]) rfl
      try simp at c_22
      obtain ⟨y_23, h_24, hp⟩ := bind_some hp
      have c_25 := C123_eq h_24
      simp at c_25
      obtain ⟨_, h_26, hp⟩ := bind_some hp
      have b_27 := room_ok h_26
      try simp at b_27
      obtain ⟨_, h_28, hp⟩ := bind_some hp
      have b_29 := room_ok h_28
      try simp at b_29
      cases hp
      try simp [q_6, q_7, q_8, q_9, q_10, q_11, q_12, q_13, q_14, q_15, h_17, b_20, b_21, c_22, c_25, b_27, b_29]
      refine goal_next ?_
      rw [I_3_]
      exact ⟨by simp [restrict_env, q_6, q_7, q_8, q_9, q_10, q_11, q_12, q_13, q_14, q_15, h_17, b_20, b_21, c_22, c_25, b_27, b_29], by simp [restrict_env, q_6, q_7, q_8, q_9, q_10, q_11, q_12, q_13, q_14, q_15, h_17, b_20, b_21, c_22, c_25, b_27, b_29], by simp [restrict_env, q_6, q_7, q_8, q_9, q_10, q_11, q_12, q_13, q_14, q_15, h_17, b_20, b_21, c_22, c_25, b_27, b_29], by simp [restrict_env, q_6, q_7, q_8, q_9, q_10, q_11, q_12, q_13, q_14, q_15, h_17, b_20, b_21, c_22, c_25, b_27, b_29], by simp [restrict_env, q_6, q_7, q_8, q_9, q_10, q_11, q_12, q_13, q_14, q_15, h_17, b_20, b_21, c_22, c_25, b_27, b_29], by simp [restrict_env, q_6, q_7, q_8, q_9, q_10, q_11, q_12, q_13, q_14, q_15, h_17, b_20, b_21, c_22, c_25, b_27, b_29], by simp [restrict_env, q_6, q_7, q_8, q_9, q_10, q_11, q_12, q_13, q_14, q_15, h_17, b_20, b_21, c_22, c_25, b_27, b_29], by simp [restrict_mem, q_6, q_7, q_8, q_9, q_10, q_11, q_12, q_13, q_14, q_15, h_17, b_20, b_21, c_22, c_25, b_27, b_29], by simp [restrict_mem, q_6, q_7, q_8, q_9, q_10, q_11, q_12, q_13, q_14, q_15, h_17, b_20, b_21, c_22, c_25, b_27, b_29], by simp [restrict_mem, q_6, q_7, q_8, q_9, q_10, q_11, q_12, q_13, q_14, q_15, h_17, b_20, b_21, c_22, c_25, b_27, b_29], NoBox.restrict (by intro k hk hb; simp at hk hb; simp [hk, hb, q_6, q_7, q_8, q_9, q_10, q_11, q_12, q_13, q_14, q_15, h_17, b_20, b_21, c_22, c_25, b_27, b_29, hn_16 k (by simp [hk, hb])])⟩
    · try simp at h_17
      cases hp
      try simp [q_6, q_7, q_8, q_9, q_10, q_11, q_12, q_13, q_14, q_15, h_17]
      refine goal_outX ?_
      rw [X_4_]
      exact ⟨_, rfl, by simp [restrict_env, q_6, q_7, q_8, q_9, q_10, q_11, q_12, q_13, q_14, q_15, h_17], by simp [restrict_env, q_6, q_7, q_8, q_9, q_10, q_11, q_12, q_13, q_14, q_15, h_17], by simp [restrict_env, q_6, q_7, q_8, q_9, q_10, q_11, q_12, q_13, q_14, q_15, h_17], by simp [restrict_env, q_6, q_7, q_8, q_9, q_10, q_11, q_12, q_13, q_14, q_15, h_17], by simp [restrict_env, q_6, q_7, q_8, q_9, q_10, q_11, q_12, q_13, q_14, q_15, h_17], by simp [restrict_env, q_6, q_7, q_8, q_9, q_10, q_11, q_12, q_13, q_14, q_15, h_17], by simp [restrict_mem, q_6, q_7, q_8, q_9, q_10, q_11, q_12, q_13, q_14, q_15, h_17], by simp [restrict_mem, q_6, q_7, q_8, q_9, q_10, q_11, q_12, q_13, q_14, q_15, h_17], by simp [restrict_mem, q_6, q_7, q_8, q_9, q_10, q_11, q_12, q_13, q_14, q_15, h_17], NoBox.restrict (by intro k hk hb; simp at hk hb; simp [hk, hb, q_6, q_7, q_8, q_9, q_10, q_11, q_12, q_13, q_14, q_15, h_17, hn_16 k (by simp [hk, hb])])⟩
  · intro out hX
    rw [X_4_] at hX
    obtain ⟨σ_32, rfl, q_33, q_34, q_35, q_36, q_37, q_38, q_39, q_40, q_41, hn_42⟩ := hX
    obtain ⟨e_43, h_44, hp⟩ := bind_some hp
    have b_45 := at_lo h_44
    have b_46 := at_hi h_44
    try simp at b_45
    try simp at b_46
    have c_47 := seg_at' h_44 0 4 (by decide) (ds := [.sl e_43.vars.length (encL e_43.vars), .sl e_43.reach.length (encL e_43.reach), .sc (.int .i64 e_43.shared), .sc (.int .i64 e_43.many)]) rfl
    try simp at c_47
    obtain ⟨y_48, h_49, hp⟩ := bind_some hp
    have c_50 := C123_eq h_49
    simp at c_50
    obtain ⟨_, h_51, hp⟩ := bind_some hp
    have b_52 := room_ok h_51
    try simp at b_52
    obtain ⟨_, h_53, hp⟩ := bind_some hp
    have b_54 := room_ok h_53
    try simp at b_54
    try simp [q_33, q_34, q_35, q_36, q_37, q_38, q_39, q_40, q_41, b_45, b_46, c_47, c_50, b_52, b_54]
    obtain ⟨r_116, h_117, hp⟩ := bind_some hp
    obtain ⟨I_57, I_57_⟩ : ∃ I : Int × (List Int) → St → Prop, I = (fun (s_55 : Int × (List Int)) (σ : St) => σ.env 2 = .one (.ptr (1, 2) 0) ∧ σ.env 4 = .one (.ptr (1, 4) 0) ∧ σ.env 5 = .one (.s (.int .i64 (s.nodes.length : Int))) ∧ σ.env 6 = .one (.ptr (1, 6) 0) ∧ σ.env 7 = .one (.l .own (r_30.1 ++ [t]).length (encL (r_30.1 ++ [t]))) ∧ σ.env 9 = .one (.s (.int .i64 s_55.1)) ∧ σ.mem (1, 2) = some [(.l .shr s.nodes.length (encL s.nodes)), (.l .shr s.next.length (encL s.next))] ∧ σ.mem (1, 4) = some [(.l .own 0 []), (.l .own 0 [])] ∧ σ.mem (1, 6) = some [(.l .own (r_30.2 ++ [y_48]).length (encL (r_30.2 ++ [y_48]))), (.l .own s_55.2.length (encL s_55.2))] ∧ NoBox [(1, 2), (1, 4), (1, 6)] σ.mem) := ⟨_, rfl⟩
    obtain ⟨X_58, X_58_⟩ : ∃ X : (List Int) → Out → Prop, X = (fun (r_116 : (List Int)) (out : Out) => ∃ σ : St, out = .exit 2 σ ∧ σ.env 4 = .one (.ptr (1, 4) 0) ∧ σ.env 6 = .one (.ptr (1, 6) 0) ∧ σ.mem (1, 2) = some [(.l .shr s.nodes.length (encL s.nodes)), (.l .shr s.next.length (encL s.next))] ∧ σ.mem (1, 4) = some [(.l .own 0 []), (.l .own 0 [])] ∧ σ.mem (1, 6) = some [(.l .own (r_30.2 ++ [y_48]).length (encL (r_30.2 ++ [y_48]))), (.l .own r_116.length (encL r_116))] ∧ NoBox [(1, 2), (1, 4), (1, 6)] σ.mem) := ⟨_, rfl⟩
    refine loopP ({ hd := [2, 4, 5, 6, 7, 9], bx := [], ex := [4, 6], rt := [4] }) I_57 X_58 h_117 (by exact rfl) ?_ ?_ ?_
    · rw [I_57_]
      exact ⟨by simp [restrict_env, q_33, q_34, q_35, q_36, q_37, q_38, q_39, q_40, q_41], by simp [restrict_env, q_33, q_34, q_35, q_36, q_37, q_38, q_39, q_40, q_41], by simp [restrict_env, q_33, q_34, q_35, q_36, q_37, q_38, q_39, q_40, q_41], by simp [restrict_env, q_33, q_34, q_35, q_36, q_37, q_38, q_39, q_40, q_41], by simp [restrict_env, q_33, q_34, q_35, q_36, q_37, q_38, q_39, q_40, q_41], by simp [restrict_env, q_33, q_34, q_35, q_36, q_37, q_38, q_39, q_40, q_41], by simp [restrict_mem, q_33, q_34, q_35, q_36, q_37, q_38, q_39, q_40, q_41], by simp [restrict_mem, q_33, q_34, q_35, q_36, q_37, q_38, q_39, q_40, q_41], by simp [restrict_mem, q_33, q_34, q_35, q_36, q_37, q_38, q_39, q_40, q_41], NoBox.restrict (by intro k hk hb; simp at hk hb; simp [hk, hb, q_33, q_34, q_35, q_36, q_37, q_38, q_39, q_40, q_41, hn_42 k (by simp [hk, hb])])⟩
    · intro s_55 σ_59 a_56 hI hp
      rw [I_57_] at hI
      obtain ⟨q_60, q_61, q_62, q_63, q_64, q_65, q_66, q_67, q_68, hn_69⟩ := hI
      try simp [q_60, q_61, q_62, q_63, q_64, q_65, q_66, q_67, q_68]
      rcases cond_cases hp with ⟨h_70, hp⟩ | ⟨h_70, hp⟩
      · try simp at h_70
        try simp [q_60, q_61, q_62, q_63, q_64, q_65, q_66, q_67, q_68, h_70]
        obtain ⟨r_103, h_104, hp⟩ := bind_some hp
        obtain ⟨I_73, I_73_⟩ : ∃ I : Int × (List Int) → St → Prop, I = (fun (s_71 : Int × (List Int)) (σ : St) => σ.env 2 = .one (.ptr (1, 2) 0) ∧ σ.env 4 = .one (.ptr (1, 4) 0) ∧ σ.env 5 = .one (.s (.int .i64 (s.nodes.length : Int))) ∧ σ.env 6 = .one (.ptr (1, 6) 0) ∧ σ.env 7 = .one (.l .own (r_30.1 ++ [t]).length (encL (r_30.1 ++ [t]))) ∧ σ.env 9 = .one (.s (.int .i64 s_55.1)) ∧ σ.env 10 = .one (.s (.int .i64 s_71.1)) ∧ σ.mem (1, 2) = some [(.l .shr s.nodes.length (encL s.nodes)), (.l .shr s.next.length (encL s.next))] ∧ σ.mem (1, 4) = some [(.l .own 0 []), (.l .own 0 [])] ∧ σ.mem (1, 6) = some [(.l .own (r_30.2 ++ [y_48]).length (encL (r_30.2 ++ [y_48]))), (.l .own s_71.2.length (encL s_71.2))] ∧ NoBox [(1, 2), (1, 4), (1, 6)] σ.mem) := ⟨_, rfl⟩
        obtain ⟨X_74, X_74_⟩ : ∃ X : (List Int) → Out → Prop, X = (fun (r_103 : (List Int)) (out : Out) => ∃ σ : St, out = .exit 4 σ ∧ σ.env 2 = .one (.ptr (1, 2) 0) ∧ σ.env 4 = .one (.ptr (1, 4) 0) ∧ σ.env 5 = .one (.s (.int .i64 (s.nodes.length : Int))) ∧ σ.env 6 = .one (.ptr (1, 6) 0) ∧ σ.env 7 = .one (.l .own (r_30.1 ++ [t]).length (encL (r_30.1 ++ [t]))) ∧ σ.env 9 = .one (.s (.int .i64 s_55.1)) ∧ σ.mem (1, 2) = some [(.l .shr s.nodes.length (encL s.nodes)), (.l .shr s.next.length (encL s.next))] ∧ σ.mem (1, 4) = some [(.l .own 0 []), (.l .own 0 [])] ∧ σ.mem (1, 6) = some [(.l .own (r_30.2 ++ [y_48]).length (encL (r_30.2 ++ [y_48]))), (.l .own r_103.length (encL r_103))] ∧ NoBox [(1, 2), (1, 4), (1, 6)] σ.mem) := ⟨_, rfl⟩
        refine loopP ({ hd := [2, 4, 5, 6, 7, 9, 10], bx := [], ex := [2, 4, 5, 6, 7, 9], rt := [4] }) I_73 X_74 h_104 (by exact rfl) ?_ ?_ ?_
        · rw [I_73_]
          exact ⟨by simp [restrict_env, q_60, q_61, q_62, q_63, q_64, q_65, q_66, q_67, q_68, h_70], by simp [restrict_env, q_60, q_61, q_62, q_63, q_64, q_65, q_66, q_67, q_68, h_70], by simp [restrict_env, q_60, q_61, q_62, q_63, q_64, q_65, q_66, q_67, q_68, h_70], by simp [restrict_env, q_60, q_61, q_62, q_63, q_64, q_65, q_66, q_67, q_68, h_70], by simp [restrict_env, q_60, q_61, q_62, q_63, q_64, q_65, q_66, q_67, q_68, h_70], by simp [restrict_env, q_60, q_61, q_62, q_63, q_64, q_65, q_66, q_67, q_68, h_70], by simp [restrict_env, q_60, q_61, q_62, q_63, q_64, q_65, q_66, q_67, q_68, h_70], by simp [restrict_mem, q_60, q_61, q_62, q_63, q_64, q_65, q_66, q_67, q_68, h_70], by simp [restrict_mem, q_60, q_61, q_62, q_63, q_64, q_65, q_66, q_67, q_68, h_70], by simp [restrict_mem, q_60, q_61, q_62, q_63, q_64, q_65, q_66, q_67, q_68, h_70], NoBox.restrict (by intro k hk hb; simp at hk hb; simp [hk, hb, q_60, q_61, q_62, q_63, q_64, q_65, q_66, q_67, q_68, h_70, hn_69 k (by simp [hk, hb])])⟩
        · intro s_71 σ_75 a_72 hI hp
          rw [I_73_] at hI
          obtain ⟨q_76, q_77, q_78, q_79, q_80, q_81, q_82, q_83, q_84, q_85, hn_86⟩ := hI
          try simp [h_70, q_76, q_77, q_78, q_79, q_80, q_81, q_82, q_83, q_84, q_85]
          rcases cond_cases hp with ⟨h_87, hp⟩ | ⟨h_87, hp⟩
          · try simp at h_87
            obtain ⟨e_88, h_89, hp⟩ := bind_some hp
            have b_90 := at_lo h_89
            have b_91 := at_hi h_89
            try simp at b_90
            try simp at b_91
            have c_92 := seg_at' h_89 0 1 (by decide) (ds := [.sc (.int .i64 e_88)]) rfl
            try simp at c_92
            obtain ⟨e_93, h_94, hp⟩ := bind_some hp
            have b_95 := at_lo h_94
            have b_96 := at_hi h_94
            try simp at b_95
            try simp at b_96
            have c_97 := seg_at' h_94 0 1 (by decide) (ds := [.sc (.int .i64 e_93)]) rfl
            try simp at c_97
            obtain ⟨y_98, h_99, hp⟩ := bind_some hp
            have c_100 := C72_eq h_99
            simp at c_100
            obtain ⟨_, h_101, hp⟩ := bind_some hp
            have b_102 := room_ok h_101
            try simp at b_102
            cases hp
            try simp [h_70, q_76, q_77, q_78, q_79, q_80, q_81, q_82, q_83, q_84, q_85, h_87, b_90, b_91, c_92, b_95, b_96, c_97, c_100, b_102]
            refine goal_next ?_
            rw [I_73_]
            exact ⟨by simp [restrict_env, h_70, q_76, q_77, q_78, q_79, q_80, q_81, q_82, q_83, q_84, q_85, h_87, b_90, b_91, c_92, b_95, b_96, c_97, c_100, b_102], by simp [restrict_env, h_70, q_76, q_77, q_78, q_79, q_80, q_81, q_82, q_83, q_84, q_85, h_87, b_90, b_91, c_92, b_95, b_96, c_97, c_100, b_102], by simp [restrict_env, h_70, q_76, q_77, q_78, q_79, q_80, q_81, q_82, q_83, q_84, q_85, h_87, b_90, b_91, c_92, b_95, b_96, c_97, c_100, b_102], by simp [restrict_env, h_70, q_76, q_77, q_78, q_79, q_80, q_81, q_82, q_83, q_84, q_85, h_87, b_90, b_91, c_92, b_95, b_96, c_97, c_100, b_102], by simp [restrict_env, h_70, q_76, q_77, q_78, q_79, q_80, q_81, q_82, q_83, q_84, q_85, h_87, b_90, b_91, c_92, b_95, b_96, c_97, c_100, b_102], by simp [restrict_env, h_70, q_76, q_77, q_78, q_79, q_80, q_81, q_82, q_83, q_84, q_85, h_87, b_90, b_91, c_92, b_95, b_96, c_97, c_100, b_102], by simp [restrict_env, h_70, q_76, q_77, q_78, q_79, q_80, q_81, q_82, q_83, q_84, q_85, h_87, b_90, b_91, c_92, b_95, b_96, c_97, c_100, b_102], by simp [restrict_mem, h_70, q_76, q_77, q_78, q_79, q_80, q_81, q_82, q_83, q_84, q_85, h_87, b_90, b_91, c_92, b_95, b_96, c_97, c_100, b_102], by simp [restrict_mem, h_70, q_76, q_77, q_78, q_79, q_80, q_81, q_82, q_83, q_84, q_85, h_87, b_90, b_91, c_92, b_95, b_96, c_97, c_100, b_102], by simp [restrict_mem, h_70, q_76, q_77, q_78, q_79, q_80, q_81, q_82, q_83, q_84, q_85, h_87, b_90, b_91, c_92, b_95, b_96, c_97, c_100, b_102], NoBox.restrict (by intro k hk hb; simp at hk hb; simp [hk, hb, h_70, q_76, q_77, q_78, q_79, q_80, q_81, q_82, q_83, q_84, q_85, h_87, b_90, b_91, c_92, b_95, b_96, c_97, c_100, b_102, hn_86 k (by simp [hk, hb])])⟩
          · try simp at h_87
            cases hp
            try simp [h_70, q_76, q_77, q_78, q_79, q_80, q_81, q_82, q_83, q_84, q_85, h_87]
            refine goal_outX ?_
            rw [X_74_]
            exact ⟨_, rfl, by simp [restrict_env, h_70, q_76, q_77, q_78, q_79, q_80, q_81, q_82, q_83, q_84, q_85, h_87], by simp [restrict_env, h_70, q_76, q_77, q_78, q_79, q_80, q_81, q_82, q_83, q_84, q_85, h_87], by simp [restrict_env, h_70, q_76, q_77, q_78, q_79, q_80, q_81, q_82, q_83, q_84, q_85, h_87], by simp [restrict_env, h_70, q_76, q_77, q_78, q_79, q_80, q_81, q_82, q_83, q_84, q_85, h_87], by simp [restrict_env, h_70, q_76, q_77, q_78, q_79, q_80, q_81, q_82, q_83, q_84, q_85, h_87], by simp [restrict_env, h_70, q_76, q_77, q_78, q_79, q_80, q_81, q_82, q_83, q_84, q_85, h_87], by simp [restrict_mem, h_70, q_76, q_77, q_78, q_79, q_80, q_81, q_82, q_83, q_84, q_85, h_87], by simp [restrict_mem, h_70, q_76, q_77, q_78, q_79, q_80, q_81, q_82, q_83, q_84, q_85, h_87], by simp [restrict_mem, h_70, q_76, q_77, q_78, q_79, q_80, q_81, q_82, q_83, q_84, q_85, h_87], NoBox.restrict (by intro k hk hb; simp at hk hb; simp [hk, hb, h_70, q_76, q_77, q_78, q_79, q_80, q_81, q_82, q_83, q_84, q_85, h_87, hn_86 k (by simp [hk, hb])])⟩
        · intro out hX
          rw [X_74_] at hX
          obtain ⟨σ_105, rfl, q_106, q_107, q_108, q_109, q_110, q_111, q_112, q_113, q_114, hn_115⟩ := hX
          cases hp
          try simp [h_70, q_106, q_107, q_108, q_109, q_110, q_111, q_112, q_113, q_114]
          refine goal_next ?_
          rw [I_57_]
          exact ⟨by simp [restrict_env, h_70, q_106, q_107, q_108, q_109, q_110, q_111, q_112, q_113, q_114], by simp [restrict_env, h_70, q_106, q_107, q_108, q_109, q_110, q_111, q_112, q_113, q_114], by simp [restrict_env, h_70, q_106, q_107, q_108, q_109, q_110, q_111, q_112, q_113, q_114], by simp [restrict_env, h_70, q_106, q_107, q_108, q_109, q_110, q_111, q_112, q_113, q_114], by simp [restrict_env, h_70, q_106, q_107, q_108, q_109, q_110, q_111, q_112, q_113, q_114], by simp [restrict_env, h_70, q_106, q_107, q_108, q_109, q_110, q_111, q_112, q_113, q_114], by simp [restrict_mem, h_70, q_106, q_107, q_108, q_109, q_110, q_111, q_112, q_113, q_114], by simp [restrict_mem, h_70, q_106, q_107, q_108, q_109, q_110, q_111, q_112, q_113, q_114], by simp [restrict_mem, h_70, q_106, q_107, q_108, q_109, q_110, q_111, q_112, q_113, q_114], NoBox.restrict (by intro k hk hb; simp at hk hb; simp [hk, hb, h_70, q_106, q_107, q_108, q_109, q_110, q_111, q_112, q_113, q_114, hn_115 k (by simp [hk, hb])])⟩
      · try simp at h_70
        cases hp
        try simp [q_60, q_61, q_62, q_63, q_64, q_65, q_66, q_67, q_68, h_70]
        refine goal_outX ?_
        rw [X_58_]
        exact ⟨_, rfl, by simp [restrict_env, q_60, q_61, q_62, q_63, q_64, q_65, q_66, q_67, q_68, h_70], by simp [restrict_env, q_60, q_61, q_62, q_63, q_64, q_65, q_66, q_67, q_68, h_70], by simp [restrict_mem, q_60, q_61, q_62, q_63, q_64, q_65, q_66, q_67, q_68, h_70], by simp [restrict_mem, q_60, q_61, q_62, q_63, q_64, q_65, q_66, q_67, q_68, h_70], by simp [restrict_mem, q_60, q_61, q_62, q_63, q_64, q_65, q_66, q_67, q_68, h_70], NoBox.restrict (by intro k hk hb; simp at hk hb; simp [hk, hb, q_60, q_61, q_62, q_63, q_64, q_65, q_66, q_67, q_68, h_70, hn_69 k (by simp [hk, hb])])⟩
    · intro out hX
      rw [X_58_] at hX
      obtain ⟨σ_118, rfl, q_119, q_120, q_121, q_122, q_123, hn_124⟩ := hX
      cases hp
      simp [Goal, FnEnd, retR, rsrc, RSrc.val, nodupR, nodup, tupPart, q_119, q_120, q_121, q_122, q_123]
theorem pc125 : PC Try.prog 125 C125 := pc_of (g := g125) (ctxOK_of [(72, C72), (123, C123)] rfl ⟨pc72, pc123, trivial⟩) ⟨Try.f125, Try.func125, by kernel_rfl, by kernel_rfl⟩ fun x y h => w125 h

noncomputable def C74 : List AV → Option AV := specP (X := TStructure × Int × (List Int) × Unit) fun x => spec_l19Cases x.1 x.2.1 x.2.2.1
theorem C74_eq {s b_ targets} {y} (h : spec_l19Cases s b_ targets = some y) : C74 [av .shr s, av .shr b_, av .shr targets] = some (Res.res y) := specP_eq (X := TStructure × Int × (List Int) × Unit) (F := fun x => spec_l19Cases x.1 x.2.1 x.2.2.1) (x := (s, b_, targets, ())) h
noncomputable def g74 : Cfg := { P := Try.prog, take := [(74, 25), (74, 54), (74, 55), (74, 58)], keep := [((74, 3), { hd := [1, 2, 3, 7, 8], bx := [10], ex := [7], rt := [6] })], gho := [], ctx := [(70, C70), (73, C73), (125, C125)] }
@[simp] theorem g74_P : g74.P = Try.prog := rfl
@[simp] theorem g74_t : g74.take = [(74, 25), (74, 54), (74, 55), (74, 58)] := rfl
@[simp] theorem g74_g : g74.gho = [] := rfl
@[simp] theorem g74_r : g74.ro = [] := rfl
@[simp] theorem g74_w : g74.away = [] := by rw [g74]
@[simp] theorem g74_70 : lookN 70 g74.ctx = some C70 := rfl
@[simp] theorem g74_73 : lookN 73 g74.ctx = some C73 := rfl
@[simp] theorem g74_125 : lookN 125 g74.ctx = some C125 := rfl
set_option maxHeartbeats 4000000 in
set_option maxRecDepth 100000 in
theorem w74 {s b_ targets} {y} (hp : spec_l19Cases s b_ targets = some y) : ∃ m, callo g74 0 74 [av .shr s, av .shr b_, av .shr targets] mem0 = some (Res.res y, m) := by
  refine start_fn (Try.f74.body.getD .skip) [.tmp 6] rfl rfl Try.func74 (by kernel_rfl) (by kernel_rfl) (by simp [Try.ntmps74]) rfl ?_
  unfold spec_l19Cases at hp
  obtain ⟨y_1, h_2, hp⟩ := bind_some hp
  have c_3 := C73_eq h_2
  simp at c_3
  simp [Try.f74, c_3]
  obtain ⟨r_46, h_47, hp⟩ := bind_some hp
  obtain ⟨I_6, I_6_⟩ : ∃ I : (List TStructure) × Int → St → Prop, I = (fun (s_4 : (List TStructure) × Int) (σ : St) => σ.env 1 = .one (.s (.int .i64 b_)) ∧ σ.env 2 = .one (.l .shr targets.length (encL targets)) ∧ σ.env 3 = .one (.ptr (1, 3) 0) ∧ σ.env 7 = .one (.l .own s_4.1.length (encL s_4.1)) ∧ σ.env 8 = .one (.s (.int .i64 s_4.2)) ∧ σ.mem (1, 3) = some [(.l .shr s.nodes.length (encL s.nodes)), (.l .shr s.next.length (encL s.next))] ∧ NoBox [(1, 3)] σ.mem) := ⟨_, rfl⟩
  obtain ⟨X_7, X_7_⟩ : ∃ X : (((List TStructure)) ⊕ ((List TStructure))) → Out → Prop, X = (fun (r_46 : ((List TStructure)) ⊕ ((List TStructure))) (out : Out) => Sum.elim (fun r_46 => ∃ σ : St, out = .ret σ ∧ σ.env 6 = .one (.l .own r_46.length (encL r_46)) ∧ σ.mem (1, 3) = some [(.l .shr s.nodes.length (encL s.nodes)), (.l .shr s.next.length (encL s.next))] ∧ NoBox [(1, 3)] σ.mem) (fun r_46 => ∃ σ : St, out = .exit 0 σ ∧ σ.env 7 = .one (.l .own r_46.length (encL r_46)) ∧ σ.mem (1, 3) = some [(.l .shr s.nodes.length (encL s.nodes)), (.l .shr s.next.length (encL s.next))] ∧ NoBox [(1, 3)] σ.mem) r_46) := ⟨_, rfl⟩
  refine loopP ({ hd := [1, 2, 3, 7, 8], bx := [10], ex := [7], rt := [6] }) I_6 X_7 h_47 (by exact rfl) ?_ ?_ ?_
  · rw [I_6_]
    exact ⟨by simp [restrict_env], by simp [restrict_env], by simp [restrict_env], by simp [restrict_env], by simp [restrict_env], by simp [restrict_mem], NoBox.restrict (by intro k hk hb; simp at hk hb; simp [hk, hb])⟩
  · intro s_4 σ_8 a_5 hI hp
    rw [I_6_] at hI
    obtain ⟨q_9, q_10, q_11, q_12, q_13, q_14, hn_15⟩ := hI
    try simp [q_9, q_10, q_11, q_12, q_13, q_14]
    rcases cond_cases hp with ⟨h_16, hp⟩ | ⟨h_16, hp⟩
    · try simp at h_16
      obtain ⟨e_17, h_18, hp⟩ := bind_some hp
      have b_19 := at_lo h_18
      have b_20 := at_hi h_18
      try simp at b_19
      try simp at b_20
      have c_21 := seg_at' h_18 0 1 (by decide) (ds := [.sc (.int .i64 e_17)]) rfl
      try simp at c_21
      obtain ⟨y_22, h_23, hp⟩ := bind_some hp
      have c_24 := C73_eq h_23
      simp at c_24
      obtain ⟨_, h_25, hp⟩ := bind_some hp
      have b_26 := room_ok h_25
      try simp at b_26
      obtain ⟨e_27, h_28, hp⟩ := bind_some hp
      have b_29 := at_lo h_28
      have b_30 := at_hi h_28
      try simp at b_29
      try simp at b_30
      have c_31 := seg_at' h_28 3 1 (by decide) (ds := [.sc (.int .i64 e_27.many)]) rfl
      try simp at c_31
      try simp [q_9, q_10, q_11, q_12, q_13, q_14, h_16, b_19, b_20, c_21, c_24, b_26, b_29, b_30, c_31]
      rcases cond_cases hp with ⟨h_32, hp⟩ | ⟨h_32, hp⟩
      · try simp at h_32
        try simp [q_9, q_10, q_11, q_12, q_13, q_14, h_16, h_32]
        rcases cond_cases hp with ⟨h_33, hp⟩ | ⟨h_33, hp⟩
        · try simp at h_33
          obtain ⟨y_34, h_35, hp⟩ := bind_some hp
          have c_36 := C70_eq h_35
          simp at c_36
          cases hp
          try simp [q_9, q_10, q_11, q_12, q_13, q_14, h_16, h_32, h_33, c_36]
          refine goal_outR ?_
          rw [X_7_]
          exact ⟨_, rfl, by simp [restrict_env, q_9, q_10, q_11, q_12, q_13, q_14, h_16, h_32, h_33, c_36], by simp [restrict_mem, q_9, q_10, q_11, q_12, q_13, q_14, h_16, h_32, h_33, c_36], NoBox.restrict (by intro k hk hb; simp at hk hb; simp [hk, hb, q_9, q_10, q_11, q_12, q_13, q_14, h_16, h_32, h_33, c_36, hn_15 k (by simp [hk, hb])])⟩
        · try simp at h_33
          obtain ⟨y_37, h_38, hp⟩ := bind_some hp
          have c_39 := C125_eq h_38
          simp at c_39
          obtain ⟨y_40, h_41, hp⟩ := bind_some hp
          have c_42 := C73_eq h_41
          simp at c_42
          have n_43 := hn_15 (1, 10) (by simp)
          obtain ⟨_, h_44, hp⟩ := bind_some hp
          have b_45 := room_ok h_44
          try simp at b_45
          cases hp
          try simp [q_9, q_10, q_11, q_12, q_13, q_14, h_16, h_32, h_33, c_39, c_42, n_43, b_45]
          refine goal_next ?_
          rw [I_6_]
          exact ⟨by simp [restrict_env, q_9, q_10, q_11, q_12, q_13, q_14, h_16, h_32, h_33, c_39, c_42, n_43, b_45], by simp [restrict_env, q_9, q_10, q_11, q_12, q_13, q_14, h_16, h_32, h_33, c_39, c_42, n_43, b_45], by simp [restrict_env, q_9, q_10, q_11, q_12, q_13, q_14, h_16, h_32, h_33, c_39, c_42, n_43, b_45], by simp [restrict_env, q_9, q_10, q_11, q_12, q_13, q_14, h_16, h_32, h_33, c_39, c_42, n_43, b_45], by simp [restrict_env, q_9, q_10, q_11, q_12, q_13, q_14, h_16, h_32, h_33, c_39, c_42, n_43, b_45], by simp [restrict_mem, q_9, q_10, q_11, q_12, q_13, q_14, h_16, h_32, h_33, c_39, c_42, n_43, b_45], NoBox.restrict (by intro k hk hb; simp at hk hb; simp [hk, hb, q_9, q_10, q_11, q_12, q_13, q_14, h_16, h_32, h_33, c_39, c_42, n_43, b_45, hn_15 k (by simp [hk, hb])])⟩
      · try simp at h_32
        cases hp
        try simp [q_9, q_10, q_11, q_12, q_13, q_14, h_16, h_32]
        refine goal_next ?_
        rw [I_6_]
        exact ⟨by simp [restrict_env, q_9, q_10, q_11, q_12, q_13, q_14, h_16, h_32], by simp [restrict_env, q_9, q_10, q_11, q_12, q_13, q_14, h_16, h_32], by simp [restrict_env, q_9, q_10, q_11, q_12, q_13, q_14, h_16, h_32], by simp [restrict_env, q_9, q_10, q_11, q_12, q_13, q_14, h_16, h_32], by simp [restrict_env, q_9, q_10, q_11, q_12, q_13, q_14, h_16, h_32], by simp [restrict_mem, q_9, q_10, q_11, q_12, q_13, q_14, h_16, h_32], NoBox.restrict (by intro k hk hb; simp at hk hb; simp [hk, hb, q_9, q_10, q_11, q_12, q_13, q_14, h_16, h_32, hn_15 k (by simp [hk, hb])])⟩
    · try simp at h_16
      cases hp
      try simp [q_9, q_10, q_11, q_12, q_13, q_14, h_16]
      refine goal_outX ?_
      rw [X_7_]
      exact ⟨_, rfl, by simp [restrict_env, q_9, q_10, q_11, q_12, q_13, q_14, h_16], by simp [restrict_mem, q_9, q_10, q_11, q_12, q_13, q_14, h_16], NoBox.restrict (by intro k hk hb; simp at hk hb; simp [hk, hb, q_9, q_10, q_11, q_12, q_13, q_14, h_16, hn_15 k (by simp [hk, hb])])⟩
  · intro out hX
    rw [X_7_] at hX
    rcases r_46 with r_46 | r_46
    · simp only [Sum.elim_inl, Sum.elim_inr] at hX hp
      obtain ⟨σ_48, rfl, q_49, q_50, hn_51⟩ := hX
      cases hp
      simp [Goal, FnEnd, q_49, q_50]
    · simp only [Sum.elim_inl, Sum.elim_inr] at hX hp
      obtain ⟨σ_52, rfl, q_53, q_54, hn_55⟩ := hX
      cases hp
      simp [Goal, FnEnd, q_53, q_54]
theorem pc74 : PC Try.prog 74 C74 := pc_of (g := g74) (ctxOK_of [(70, C70), (73, C73), (125, C125)] rfl ⟨pc70, pc73, pc125, trivial⟩) ⟨Try.f74, Try.func74, by kernel_rfl, by kernel_rfl⟩ fun x y h => w74 h

noncomputable def C20 : List AV → Option AV := specP (X := TStructure × Int × Unit) fun x => spec_FocusNext x.1 x.2.1
theorem C20_eq {s k_} {y} (h : spec_FocusNext s k_ = some y) : C20 [av .shr s, av .shr k_] = some (Res.res y) := specP_eq (X := TStructure × Int × Unit) (F := fun x => spec_FocusNext x.1 x.2.1) (x := (s, k_, ())) h
noncomputable def g20 : Cfg := { P := Try.prog, take := [], keep := [((20, 6), { hd := [2, 5, 6, 7], bx := [], ex := [2, 5, 6], rt := [4] })], gho := [], ctx := [(40, C40), (68, C68), (69, C69), (70, C70), (71, C71), (72, C72), (73, C73), (74, C74)] }
@[simp] theorem g20_P : g20.P = Try.prog := rfl
@[simp] theorem g20_t : g20.take = [] := rfl
@[simp] theorem g20_g : g20.gho = [] := rfl
@[simp] theorem g20_r : g20.ro = [] := rfl
@[simp] theorem g20_w : g20.away = [] := by rw [g20]
@[simp] theorem g20_40 : lookN 40 g20.ctx = some C40 := rfl
@[simp] theorem g20_68 : lookN 68 g20.ctx = some C68 := rfl
@[simp] theorem g20_69 : lookN 69 g20.ctx = some C69 := rfl
@[simp] theorem g20_70 : lookN 70 g20.ctx = some C70 := rfl
@[simp] theorem g20_71 : lookN 71 g20.ctx = some C71 := rfl
@[simp] theorem g20_72 : lookN 72 g20.ctx = some C72 := rfl
@[simp] theorem g20_73 : lookN 73 g20.ctx = some C73 := rfl
@[simp] theorem g20_74 : lookN 74 g20.ctx = some C74 := rfl
set_option maxHeartbeats 4000000 in
set_option maxRecDepth 100000 in
theorem w20 {s k_} {y} (hp : spec_FocusNext s k_ = some y) : ∃ m, callo g20 0 20 [av .shr s, av .shr k_] mem0 = some (Res.res y, m) := by
  refine start_fn (Try.f20.body.getD .skip) [.tmp 4] rfl rfl Try.func20 (by kernel_rfl) (by kernel_rfl) (by simp [Try.ntmps20]) rfl ?_
  unfold spec_FocusNext at hp
  obtain ⟨y_1, h_2, hp⟩ := bind_some hp
  have c_3 := C68_eq h_2
  simp at c_3
  simp [Try.f20, c_3]
  rcases cond_cases hp with ⟨h_4, hp⟩ | ⟨h_4, hp⟩
  · try simp at h_4
    obtain ⟨y_5, h_6, hp⟩ := bind_some hp
    have c_7 := C70_eq h_6
    simp at c_7
    cases hp
    simp [Goal, FnEnd, h_4, c_7]
  · try simp at h_4
    obtain ⟨y_8, h_9, hp⟩ := bind_some hp
    have c_10 := C69_eq h_9
    simp at c_10
    obtain ⟨y_11, h_12, hp⟩ := bind_some hp
    have c_13 := C40_eq h_12
    simp at c_13
    try simp [h_4, c_10, c_13]
    rcases cond_cases hp with ⟨h_14, hp⟩ | ⟨h_14, hp⟩
    · try simp at h_14
      obtain ⟨y_15, h_16, hp⟩ := bind_some hp
      have c_17 := C71_eq h_16
      simp at c_17
      try simp [h_4, h_14, c_17]
      obtain ⟨r_47, h_48, hp⟩ := bind_some hp
      obtain ⟨I_20, I_20_⟩ : ∃ I : Int → St → Prop, I = (fun (s_18 : Int) (σ : St) => σ.env 2 = .one (.ptr (1, 2) 0) ∧ σ.env 5 = .one (.s (.int .i64 y_1)) ∧ σ.env 6 = .one (.l .own y_15.length (encL y_15)) ∧ σ.env 7 = .one (.s (.int .i64 s_18)) ∧ σ.mem (1, 2) = some [(.l .shr s.nodes.length (encL s.nodes)), (.l .shr s.next.length (encL s.next))] ∧ NoBox [(1, 2)] σ.mem) := ⟨_, rfl⟩
      obtain ⟨X_21, X_21_⟩ : ∃ X : (((List TStructure)) ⊕ (Unit)) → Out → Prop, X = (fun (r_47 : ((List TStructure)) ⊕ (Unit)) (out : Out) => Sum.elim (fun r_47 => ∃ σ : St, out = .ret σ ∧ σ.env 4 = .one (.l .own r_47.length (encL r_47)) ∧ σ.mem (1, 2) = some [(.l .shr s.nodes.length (encL s.nodes)), (.l .shr s.next.length (encL s.next))] ∧ NoBox [(1, 2)] σ.mem) (fun r_47 => ∃ σ : St, out = .exit 0 σ ∧ σ.env 2 = .one (.ptr (1, 2) 0) ∧ σ.env 5 = .one (.s (.int .i64 y_1)) ∧ σ.env 6 = .one (.l .own y_15.length (encL y_15)) ∧ σ.mem (1, 2) = some [(.l .shr s.nodes.length (encL s.nodes)), (.l .shr s.next.length (encL s.next))] ∧ NoBox [(1, 2)] σ.mem) r_47) := ⟨_, rfl⟩
      refine loopP ({ hd := [2, 5, 6, 7], bx := [], ex := [2, 5, 6], rt := [4] }) I_20 X_21 h_48 (by exact rfl) ?_ ?_ ?_
      · rw [I_20_]
        exact ⟨by simp [restrict_env, h_4, h_14], by simp [restrict_env, h_4, h_14], by simp [restrict_env, h_4, h_14], by simp [restrict_env, h_4, h_14], by simp [restrict_mem, h_4, h_14], NoBox.restrict (by intro k hk hb; simp at hk hb; simp [hk, hb, h_4, h_14])⟩
      · intro s_18 σ_22 a_19 hI hp
        rw [I_20_] at hI
        obtain ⟨q_23, q_24, q_25, q_26, q_27, hn_28⟩ := hI
        try simp [h_4, h_14, q_23, q_24, q_25, q_26, q_27]
        rcases cond_cases hp with ⟨h_29, hp⟩ | ⟨h_29, hp⟩
        · try simp at h_29
          obtain ⟨e_30, h_31, hp⟩ := bind_some hp
          have b_32 := at_lo h_31
          have b_33 := at_hi h_31
          try simp at b_32
          try simp at b_33
          have c_34 := seg_at' h_31 0 1 (by decide) (ds := [.sc (.int .i64 e_30)]) rfl
          try simp at c_34
          obtain ⟨y_35, h_36, hp⟩ := bind_some hp
          have c_37 := C72_eq h_36
          simp at c_37
          try simp [h_4, h_14, q_23, q_24, q_25, q_26, q_27, h_29, b_32, b_33, c_34, c_37]
          rcases cond_cases hp with ⟨h_38, hp⟩ | ⟨h_38, hp⟩
          · try simp at h_38
            obtain ⟨e_39, h_40, hp⟩ := bind_some hp
            cases Option.some.inj (h_31.symm.trans h_40)
            have b_41 := at_lo h_31
            have b_42 := at_hi h_31
            try simp at b_41
            try simp at b_42
            have c_43 := seg_at' h_31 0 1 (by decide) (ds := [.sc (.int .i64 e_30)]) rfl
            try simp at c_43
            obtain ⟨y_44, h_45, hp⟩ := bind_some hp
            have c_46 := C73_eq h_45
            simp at c_46
            cases hp
            try simp [h_4, h_14, q_23, q_24, q_25, q_26, q_27, h_29, h_38, b_41, b_42, c_43, c_46]
            refine goal_outR ?_
            rw [X_21_]
            exact ⟨_, rfl, by simp [restrict_env, h_4, h_14, q_23, q_24, q_25, q_26, q_27, h_29, h_38, b_41, b_42, c_43, c_46], by simp [restrict_mem, h_4, h_14, q_23, q_24, q_25, q_26, q_27, h_29, h_38, b_41, b_42, c_43, c_46], NoBox.restrict (by intro k hk hb; simp at hk hb; simp [hk, hb, h_4, h_14, q_23, q_24, q_25, q_26, q_27, h_29, h_38, b_41, b_42, c_43, c_46, hn_28 k (by simp [hk, hb])])⟩
          · try simp at h_38
            cases hp
            try simp [h_4, h_14, q_23, q_24, q_25, q_26, q_27, h_29, h_38]
            refine goal_next ?_
            rw [I_20_]
            exact ⟨by simp [restrict_env, h_4, h_14, q_23, q_24, q_25, q_26, q_27, h_29, h_38], by simp [restrict_env, h_4, h_14, q_23, q_24, q_25, q_26, q_27, h_29, h_38], by simp [restrict_env, h_4, h_14, q_23, q_24, q_25, q_26, q_27, h_29, h_38], by simp [restrict_env, h_4, h_14, q_23, q_24, q_25, q_26, q_27, h_29, h_38], by simp [restrict_mem, h_4, h_14, q_23, q_24, q_25, q_26, q_27, h_29, h_38], NoBox.restrict (by intro k hk hb; simp at hk hb; simp [hk, hb, h_4, h_14, q_23, q_24, q_25, q_26, q_27, h_29, h_38, hn_28 k (by simp [hk, hb])])⟩
        · try simp at h_29
          cases hp
          try simp [h_4, h_14, q_23, q_24, q_25, q_26, q_27, h_29]
          refine goal_outX ?_
          rw [X_21_]
          exact ⟨_, rfl, by simp [restrict_env, h_4, h_14, q_23, q_24, q_25, q_26, q_27, h_29], by simp [restrict_env, h_4, h_14, q_23, q_24, q_25, q_26, q_27, h_29], by simp [restrict_env, h_4, h_14, q_23, q_24, q_25, q_26, q_27, h_29], by simp [restrict_mem, h_4, h_14, q_23, q_24, q_25, q_26, q_27, h_29], NoBox.restrict (by intro k hk hb; simp at hk hb; simp [hk, hb, h_4, h_14, q_23, q_24, q_25, q_26, q_27, h_29, hn_28 k (by simp [hk, hb])])⟩
      · intro out hX
        rw [X_21_] at hX
        rcases r_47 with r_47 | r_47
        · simp only [Sum.elim_inl, Sum.elim_inr] at hX hp
          obtain ⟨σ_49, rfl, q_50, q_51, hn_52⟩ := hX
          cases hp
          simp [Goal, FnEnd, h_4, h_14, q_50, q_51]
        · simp only [Sum.elim_inl, Sum.elim_inr] at hX hp
          obtain ⟨σ_53, rfl, q_54, q_55, q_56, q_57, hn_58⟩ := hX
          obtain ⟨y_59, h_60, hp⟩ := bind_some hp
          have c_61 := C74_eq h_60
          simp at c_61
          cases hp
          simp [Goal, FnEnd, h_4, h_14, q_54, q_55, q_56, q_57, c_61]
    · try simp at h_14
      obtain ⟨y_62, h_63, hp⟩ := bind_some hp
      have c_64 := C70_eq h_63
      simp at c_64
      cases hp
      simp [Goal, FnEnd, h_4, h_14, c_64]
theorem pc20 : PC Try.prog 20 C20 := pc_of (g := g20) (ctxOK_of [(40, C40), (68, C68), (69, C69), (70, C70), (71, C71), (72, C72), (73, C73), (74, C74)] rfl ⟨pc40, pc68, pc69, pc70, pc71, pc72, pc73, pc74, trivial⟩) ⟨Try.f20, Try.func20, by kernel_rfl, by kernel_rfl⟩ fun x y h => w20 h

noncomputable def C49 : List AV → Option AV := specP (X := Int × Int × Int × Unit) fun x => impl_within x.1 x.2.1 x.2.2.1
theorem C49_eq {n_ low high} {y} (h : impl_within n_ low high = some y) : C49 [av .shr n_, av .shr low, av .shr high] = some (Res.res y) := specP_eq (X := Int × Int × Int × Unit) (F := fun x => impl_within x.1 x.2.1 x.2.2.1) (x := (n_, low, high, ())) h
noncomputable def g49 : Cfg := { P := Try.prog, take := [], keep := [], gho := [], ctx := [] }
@[simp] theorem g49_P : g49.P = Try.prog := rfl
@[simp] theorem g49_t : g49.take = [] := rfl
@[simp] theorem g49_g : g49.gho = [] := rfl
@[simp] theorem g49_r : g49.ro = [] := rfl
@[simp] theorem g49_w : g49.away = [] := by rw [g49]
set_option maxHeartbeats 4000000 in
set_option maxRecDepth 100000 in
theorem w49 {n_ low high} {y} (hp : impl_within n_ low high = some y) : ∃ m, callo g49 0 49 [av .shr n_, av .shr low, av .shr high] mem0 = some (Res.res y, m) := by
  refine start_fn (Try.f49.body.getD .skip) [.tmp 6] rfl rfl Try.func49 (by kernel_rfl) (by kernel_rfl) (by simp [Try.ntmps49]) rfl ?_
  unfold impl_within at hp
  simp [Try.f49]
  rcases cond_cases hp with ⟨h_1, hp⟩ | ⟨h_1, hp⟩
  · try simp at h_1
    cases hp
    simp [Goal, FnEnd, h_1]
  · try simp at h_1
    cases hp
    simp [Goal, FnEnd, h_1]
theorem pc49 : PC Try.prog 49 C49 := pc_of (g := g49) (fun f F h => by cases h) ⟨Try.f49, Try.func49, by kernel_rfl, by kernel_rfl⟩ fun x y h => w49 h

noncomputable def C134 : List AV → Option AV := specP (X := TStructure × Int × Unit) fun x => impl_Structure_isNode x.1 x.2.1
theorem C134_eq {s i} {y} (h : impl_Structure_isNode s i = some y) : C134 [av .shr s, av .shr i] = some (Res.res y) := specP_eq (X := TStructure × Int × Unit) (F := fun x => impl_Structure_isNode x.1 x.2.1) (x := (s, i, ())) h
noncomputable def g134 : Cfg := { P := Try.prog, take := [], keep := [], gho := [], ctx := [(49, C49)] }
@[simp] theorem g134_P : g134.P = Try.prog := rfl
@[simp] theorem g134_t : g134.take = [] := rfl
@[simp] theorem g134_g : g134.gho = [] := rfl
@[simp] theorem g134_r : g134.ro = [] := rfl
@[simp] theorem g134_w : g134.away = [] := by rw [g134]
@[simp] theorem g134_49 : lookN 49 g134.ctx = some C49 := rfl
set_option maxHeartbeats 4000000 in
set_option maxRecDepth 100000 in
theorem w134 {s i} {y} (hp : impl_Structure_isNode s i = some y) : ∃ m, callo g134 0 134 [av .shr s, av .shr i] mem0 = some (Res.res y, m) := by
  refine start_fn (Try.f134.body.getD .skip) [.tmp 4] rfl rfl Try.func134 (by kernel_rfl) (by kernel_rfl) (by simp [Try.ntmps134]) rfl ?_
  unfold impl_Structure_isNode at hp
  obtain ⟨y_1, h_2, hp⟩ := bind_some hp
  have c_3 := C49_eq h_2
  simp at c_3
  cases hp
  simp [Try.f134, Goal, FnEnd, c_3]
theorem pc134 : PC Try.prog 134 C134 := pc_of (g := g134) (ctxOK_of [(49, C49)] rfl ⟨pc49, trivial⟩) ⟨Try.f134, Try.func134, by kernel_rfl, by kernel_rfl⟩ fun x y h => w134 h

noncomputable def C81 : List AV → Option AV := specP (X := TStructure × Int × Int × Unit) fun x => impl_NextOf x.1 x.2.1 x.2.2.1
theorem C81_eq {s i j} {y} (h : impl_NextOf s i j = some y) : C81 [av .shr s, av .shr i, av .shr j] = some (Res.res y) := specP_eq (X := TStructure × Int × Int × Unit) (F := fun x => impl_NextOf x.1 x.2.1 x.2.2.1) (x := (s, i, j, ())) h
noncomputable def g81 : Cfg := { P := Try.prog, take := [], keep := [], gho := [], ctx := [(134, C134)] }
@[simp] theorem g81_P : g81.P = Try.prog := rfl
@[simp] theorem g81_t : g81.take = [] := rfl
@[simp] theorem g81_g : g81.gho = [] := rfl
@[simp] theorem g81_r : g81.ro = [] := rfl
@[simp] theorem g81_w : g81.away = [] := by rw [g81]
@[simp] theorem g81_134 : lookN 134 g81.ctx = some C134 := rfl
set_option maxHeartbeats 4000000 in
set_option maxRecDepth 100000 in
theorem w81 {s i j} {y} (hp : impl_NextOf s i j = some y) : ∃ m, callo g81 0 81 [av .shr s, av .shr i, av .shr j] mem0 = some (Res.res y, m) := by
  refine start_fn (Try.f81.body.getD .skip) [.tmp 6] rfl rfl Try.func81 (by kernel_rfl) (by kernel_rfl) (by simp [Try.ntmps81]) rfl ?_
  unfold impl_NextOf at hp
  obtain ⟨y_1, h_2, hp⟩ := bind_some hp
  have c_3 := C134_eq h_2
  simp at c_3
  simp [Try.f81, c_3]
  rcases cond_cases hp with ⟨h_4, hp⟩ | ⟨h_4, hp⟩
  · try simp at h_4
    obtain ⟨y_5, h_6, hp⟩ := bind_some hp
    have c_7 := C134_eq h_6
    simp at c_7
    try simp [h_4, c_7]
    rcases cond_cases hp with ⟨h_8, hp⟩ | ⟨h_8, hp⟩
    · try simp at h_8
      try simp [h_4, h_8]
      rcases cond_cases hp with ⟨h_9, hp⟩ | ⟨h_9, hp⟩
      · try simp at h_9
        cases hp
        simp [Goal, FnEnd, h_4, h_8, h_9]
      · try simp at h_9
        obtain ⟨e_10, h_11, hp⟩ := bind_some hp
        have b_12 := at_lo h_11
        have b_13 := at_hi h_11
        try simp at b_12
        try simp at b_13
        have c_14 := seg_at' h_11 0 1 (by decide) (ds := [.sc (.int .i64 e_10)]) rfl
        try simp at c_14
        cases hp
        simp [Goal, FnEnd, h_4, h_8, h_9, b_12, b_13, c_14]
    · try simp at h_8
      cases hp
      simp [Goal, FnEnd, h_4, h_8]
  · try simp at h_4
    cases hp
    simp [Goal, FnEnd, h_4]
theorem pc81 : PC Try.prog 81 C81 := pc_of (g := g81) (ctxOK_of [(134, C134)] rfl ⟨pc134, trivial⟩) ⟨Try.f81, Try.func81, by kernel_rfl, by kernel_rfl⟩ fun x y h => w81 h

abbrev G127 (g : Cfg) : Prop := Has Try.prog g 127 Try.f127 [] [(2, { hd := [0, 1, 7, 8], bx := [], ex := [], rt := [4] })] [] []
set_option maxHeartbeats 4000000 in
set_option maxRecDepth 100000 in
theorem wI127 {g : Cfg} (G : G127 g) {d : Nat} {mem : Mem} (hT : Tight d mem)  {s : (List TNode)} {f_ : (TNode → Option (Bool))} {m_0 : Md} (hm_0 : LentM m_0) {fk_f_ : Nat} {caps_f_ : List (Key × Nat)} (hl_f_ : ∀ c ∈ caps_f_, c.1.1 ≤ d) (hc_f_ : Clo g d mem fk_f_ caps_f_ fun x : TNode × Unit => f_ x.1) {y} (hp : slices_IndexFunc_Node s f_ = some y) : callo g d 127 [av m_0 s, .one (.fn fk_f_ caps_f_)] mem = some (Res.res y, mem) := by
  have gP := G.P; have gt := G.tk; have gr := G.ro; have gg := G.gh
  have k_2 := G.kp (2, { hd := [0, 1, 7, 8], bx := [], ex := [], rt := [4] }) (by simp)
  have hT2 : memKill (fun k => decide (d < k.1)) mem = mem := hT
  refine start_in (Try.f127.body.getD .skip) [.tmp 4] G Try.func127 (by kernel_rfl) (by simp [Try.ntmps127]) rfl ?_
  unfold slices_IndexFunc_Node at hp
  simp [Try.f127, gP, gt, gr, gg, hm_0.copy, hm_0.elem]
  obtain ⟨r_20, h_21, hp⟩ := bind_some hp
  obtain ⟨I_3, I_3_⟩ : ∃ I : Int → St → Prop, I = (fun (s_1 : Int) (σ : St) => σ.env 0 = .one (.l m_0 s.length (encL s)) ∧ σ.env 1 = .one (.fn fk_f_ caps_f_) ∧ σ.env 7 = .one (.s (.int .i64 (s.length : Int))) ∧ σ.env 8 = .one (.s (.int .i64 s_1)) ∧ σ.mem = mem) := ⟨_, rfl⟩
  obtain ⟨X_4, X_4_⟩ : ∃ X : ((Int) ⊕ (Unit)) → Out → Prop, X = (fun (r_20 : (Int) ⊕ (Unit)) (out : Out) => Sum.elim (fun r_20 => ∃ σ : St, out = .ret σ ∧ σ.env 4 = .one (.s (.int .i64 r_20)) ∧ σ.mem = mem) (fun r_20 => ∃ σ : St, out = .exit 0 σ ∧ σ.mem = mem) r_20) := ⟨_, rfl⟩
  refine loopP ({ hd := [0, 1, 7, 8], bx := [], ex := [], rt := [4] }) I_3 X_4 h_21 (by exact k_2) ?_ ?_ ?_
  · rw [I_3_]
    exact ⟨by simp [restrict_env, gP, gt, gr, gg, hm_0.copy, hm_0.elem], by simp [restrict_env, gP, gt, gr, gg, hm_0.copy, hm_0.elem] <;> first | (intro x x1 x2 hx; have h0 := hl_f_ _ hx; simp at h0; omega) | (intro x hx; have h0 := hl_f_ _ hx; simp at h0; omega), by simp [restrict_env, gP, gt, gr, gg, hm_0.copy, hm_0.elem], by simp [restrict_env, gP, gt, gr, gg, hm_0.copy, hm_0.elem], by simp [restrict_mem, gP, gt, gr, gg, hm_0.copy, hm_0.elem]⟩
  · intro s_1 σ_5 a_2 hI hp
    rw [I_3_] at hI
    obtain ⟨q_6, q_7, q_8, q_9, q_10⟩ := hI
    try simp [gP, gt, gr, gg, hm_0.copy, hm_0.elem, q_6, q_7, q_8, q_9, q_10]
    rcases cond_cases hp with ⟨h_11, hp⟩ | ⟨h_11, hp⟩
    · try simp at h_11
      obtain ⟨e_12, h_13, hp⟩ := bind_some hp
      have b_14 := at_lo h_13
      have b_15 := at_hi h_13
      try simp at b_14
      try simp at b_15
      have c_16 := seg_at' h_13 0 4 (by decide) (ds := [.sl e_12.vars.length (encL e_12.vars), .sl e_12.reach.length (encL e_12.reach), .sc (.int .i64 e_12.shared), .sc (.int .i64 e_12.many)]) rfl
      try simp at c_16
      obtain ⟨y_17, h_18, hp⟩ := bind_some hp
      try simp [gP, gt, gr, gg, hm_0.copy, hm_0.elem, q_6, q_7, q_8, q_9, q_10, h_11, b_14, b_15, c_16]
      refine goal_call ([av m_0 e_12] ++ capsAV caps_f_) (Res.res y_17) (by simp [capsAV, gP, gt, gr, gg, hm_0.copy, hm_0.elem, q_6, q_7, q_8, q_9, q_10, h_11]) (hc_f_ _ _ _ (e_12, ()) _ (Nat.le_succ d) (fun k hk => by first | rfl | rw [q_10]) (by repeat (first | exact tight_mem0 _ | exact hT.up | exact hT | (simp only [q_6, q_7, q_8, q_9, q_10]; done) | refine Tight.upd ?_ (by simp) (by simp))) ⟨_, _, hm_0, rfl, rfl⟩ h_18) ?_
      try simp [gP, gt, gr, gg, hm_0.copy, hm_0.elem, q_6, q_7, q_8, q_9, q_10, h_11]
      rcases cond_cases hp with ⟨h_19, hp⟩ | ⟨h_19, hp⟩
      · try simp at h_19
        cases hp
        try simp [gP, gt, gr, gg, hm_0.copy, hm_0.elem, q_6, q_7, q_8, q_9, q_10, h_11, h_19]
        refine goal_outR ?_
        rw [X_4_]
        exact ⟨_, rfl, by simp [restrict_env, gP, gt, gr, gg, hm_0.copy, hm_0.elem, q_6, q_7, q_8, q_9, q_10, h_11, h_19], by simp [restrict_mem, gP, gt, gr, gg, hm_0.copy, hm_0.elem, q_6, q_7, q_8, q_9, q_10, h_11, h_19]⟩
      · try simp at h_19
        cases hp
        try simp [gP, gt, gr, gg, hm_0.copy, hm_0.elem, q_6, q_7, q_8, q_9, q_10, h_11, h_19]
        refine goal_next ?_
        rw [I_3_]
        exact ⟨by simp [restrict_env, gP, gt, gr, gg, hm_0.copy, hm_0.elem, q_6, q_7, q_8, q_9, q_10, h_11, h_19], by simp [restrict_env, gP, gt, gr, gg, hm_0.copy, hm_0.elem, q_6, q_7, q_8, q_9, q_10, h_11, h_19] <;> first | (intro x x1 x2 hx; have h0 := hl_f_ _ hx; simp at h0; omega) | (intro x hx; have h0 := hl_f_ _ hx; simp at h0; omega), by simp [restrict_env, gP, gt, gr, gg, hm_0.copy, hm_0.elem, q_6, q_7, q_8, q_9, q_10, h_11, h_19], by simp [restrict_env, gP, gt, gr, gg, hm_0.copy, hm_0.elem, q_6, q_7, q_8, q_9, q_10, h_11, h_19], by simp [restrict_mem, gP, gt, gr, gg, hm_0.copy, hm_0.elem, q_6, q_7, q_8, q_9, q_10, h_11, h_19]⟩
    · try simp at h_11
      cases hp
      try simp [gP, gt, gr, gg, hm_0.copy, hm_0.elem, q_6, q_7, q_8, q_9, q_10, h_11]
      refine goal_outX ?_
      rw [X_4_]
      exact ⟨_, rfl, by simp [restrict_mem, gP, gt, gr, gg, hm_0.copy, hm_0.elem, q_6, q_7, q_8, q_9, q_10, h_11]⟩
  · intro out hX
    rw [X_4_] at hX
    rcases r_20 with r_20 | r_20
    · simp only [Sum.elim_inl, Sum.elim_inr] at hX hp
      obtain ⟨σ_22, rfl, q_23, q_24⟩ := hX
      cases hp
      simp [Goal, FnEndI, memKill_hi, gP, gt, gr, gg, hm_0.copy, hm_0.elem, q_23, q_24, hT2]
    · simp only [Sum.elim_inl, Sum.elim_inr] at hX hp
      obtain ⟨σ_25, rfl, q_26⟩ := hX
      cases hp
      simp [Goal, FnEndI, memKill_hi, gP, gt, gr, gg, hm_0.copy, hm_0.elem, q_26, hT2]

abbrev G128 (g : Cfg) : Prop := Has Try.prog g 128 Try.f128 [] [] [(49, C49)] []
set_option maxHeartbeats 4000000 in
set_option maxRecDepth 100000 in
theorem wI128 {g : Cfg} (G : G128 g) {d : Nat} {mem : Mem} (hT : Tight d mem) {K_1 : Key} {x_ : TNode} {c0 : Int} {m_0 : Md} (hm_0 : LentM m_0) (hk_1 : K_1.1 ≤ d) (hb_1 : mem K_1 = some [(.s (.int .i64 c0))]) {y} (hp : impl_focused_1 x_ c0 = some y) : callo g d 128 [av m_0 x_, .one (.ptr K_1 0)] mem = some (Res.res y, mem) := by
  have gP := G.P; have gt := G.tk; have gr := G.ro; have gg := G.gh
  have c_49 := G.cs (49, C49) (by simp)
  have hT2 : memKill (fun k => decide (d < k.1)) mem = mem := hT
  have hm0 : ∀ t, mem (d + 1, t) = none := fun t => hT.none (by simp)
  have nk_1 : ∀ t, (K_1 = (d + 1, t)) = False := fun t => by simp; intro h; rw [h] at hk_1; simp at hk_1; omega
  refine start_in (Try.f128.body.getD .skip) [.tmp 3] G Try.func128 (by kernel_rfl) (by simp [Try.ntmps128]) rfl ?_
  unfold impl_focused_1 at hp
  obtain ⟨y_1, h_2, hp⟩ := bind_some hp
  have c_3 := C49_eq h_2
  simp at c_3
  simp [Try.f128, gP, gt, gr, gg, hm0, c_49, hm_0.copy, hm_0.elem, hb_1, nk_1, c_3]
  rcases cond_cases hp with ⟨h_4, hp⟩ | ⟨h_4, hp⟩
  · try simp at h_4
    obtain ⟨e_5, h_6, hp⟩ := bind_some hp
    have b_7 := at_lo h_6
    have b_8 := at_hi h_6
    try simp at b_7
    try simp at b_8
    have c_9 := seg_at' h_6 0 1 (by decide) (ds := [.sc (.int .i64 e_5)]) rfl
    try simp at c_9
    try simp [gP, gt, gr, gg, hm0, c_49, hm_0.copy, hm_0.elem, hb_1, nk_1, h_4, b_7, b_8, c_9]
    rcases cond_cases hp with ⟨h_10, hp⟩ | ⟨h_10, hp⟩
    · try simp at h_10
      cases hp
      simp [Goal, FnEndI, memKill_hi, gP, gt, gr, gg, hm0, c_49, hm_0.copy, hm_0.elem, hb_1, nk_1, h_4, h_10, hT2]
    · try simp at h_10
      cases hp
      simp [Goal, FnEndI, memKill_hi, gP, gt, gr, gg, hm0, c_49, hm_0.copy, hm_0.elem, hb_1, nk_1, h_4, h_10, hT2]
  · try simp at h_4
    cases hp
    simp [Goal, FnEndI, memKill_hi, gP, gt, gr, gg, hm0, c_49, hm_0.copy, hm_0.elem, hb_1, nk_1, h_4, hT2]

noncomputable def C77 : List AV → Option AV := specP (X := TStructure × Int × Unit) fun x => impl_focused x.1 x.2.1
theorem C77_eq {s k_} {y} (h : impl_focused s k_ = some y) : C77 [av .shr s, av .shr k_] = some (Res.res y) := specP_eq (X := TStructure × Int × Unit) (F := fun x => impl_focused x.1 x.2.1) (x := (s, k_, ())) h
noncomputable def g77 : Cfg := { P := Try.prog, take := [(77, 29), (77, 35)], keep := [((77, 4), { hd := [2, 6, 7, 16, 17], bx := [], ex := [6, 7], rt := [4, 5] }), ((127, 2), { hd := [0, 1, 7, 8], bx := [], ex := [], rt := [4] })], gho := [], ctx := [(49, C49), (81, C81)] }
@[simp] theorem g77_P : g77.P = Try.prog := rfl
@[simp] theorem g77_t : g77.take = [(77, 29), (77, 35)] := rfl
@[simp] theorem g77_g : g77.gho = [] := rfl
@[simp] theorem g77_r : g77.ro = [] := rfl
@[simp] theorem g77_w : g77.away = [] := by rw [g77]
@[simp] theorem g77_49 : lookN 49 g77.ctx = some C49 := rfl
@[simp] theorem g77_81 : lookN 81 g77.ctx = some C81 := rfl
@[simp] theorem g77_127 : lookN 127 g77.ctx = none := rfl
@[simp] theorem g77_128 : lookN 128 g77.ctx = none := rfl
set_option maxHeartbeats 4000000 in
set_option maxRecDepth 100000 in
theorem w77 {s k_} {y} (hp : impl_focused s k_ = some y) : ∃ m, callo g77 0 77 [av .shr s, av .shr k_] mem0 = some (Res.res y, m) := by
  have G_127 : G127 g77 := ⟨rfl, by kernel_rfl, rfl, fun t => by simp, noAway (fun t => by simp) (by simp), fun i => by simp [lookK], by simp [g77, lookK], by simp⟩
  have G_128 : G128 g77 := ⟨rfl, by kernel_rfl, rfl, fun t => by simp, noAway (fun t => by simp) (by simp), fun i => by simp [lookK], by simp [g77, lookK], by simp⟩
  refine start_fn (Try.f77.body.getD .skip) [.tmp 4, .tmp 5] rfl rfl Try.func77 (by kernel_rfl) (by kernel_rfl) (by simp [Try.ntmps77]) rfl ?_
  unfold impl_focused at hp
  obtain ⟨y_1, h_2, hp⟩ := bind_some hp
  simp [Try.f77]
  refine goal_call [av .shr s.nodes, .one (.fn 128 [((1, 3), 0)])] (Res.res y_1) (by simp) (wI127 G_127 (by repeat (first | exact tight_mem0 _ | exact hT.up | exact hT | (simp only [true_and]; done) | refine Tight.upd ?_ (by simp) (by simp))) (.inl rfl) (by simp) (clo1 (p := fun x0 => impl_focused_1 x0 k_) fun d2 mem2 m0 x0 r2 hd2 ha2 hT2 hm0 hr2 => wI128 G_128 hT2 hm0 (show 1 ≤ d2 from hd2) ((ha2 _ (Nat.le_refl _)).trans (by simp)) hr2) h_2) ?_
  try simp
  obtain ⟨r_25, h_26, hp⟩ := bind_some hp
  obtain ⟨I_5, I_5_⟩ : ∃ I : (List Int) × Int → St → Prop, I = (fun (s_3 : (List Int) × Int) (σ : St) => σ.env 2 = .one (.ptr (1, 2) 0) ∧ σ.env 6 = .one (.s (.int .i64 y_1)) ∧ σ.env 7 = .one (.l .own s_3.1.length (encL s_3.1)) ∧ σ.env 16 = .one (.s (.int .i64 (s.nodes.length : Int))) ∧ σ.env 17 = .one (.s (.int .i64 s_3.2)) ∧ σ.mem (1, 2) = some [(.l .shr s.nodes.length (encL s.nodes)), (.l .shr s.next.length (encL s.next))] ∧ σ.mem (1, 3) = some [(.s (.int .i64 k_))] ∧ Tight (1) σ.mem ∧ NoBox [(1, 2), (1, 3)] σ.mem) := ⟨_, rfl⟩
  obtain ⟨X_6, X_6_⟩ : ∃ X : (List Int) → Out → Prop, X = (fun (r_25 : (List Int)) (out : Out) => ∃ σ : St, out = .exit 0 σ ∧ σ.env 6 = .one (.s (.int .i64 y_1)) ∧ σ.env 7 = .one (.l .own r_25.length (encL r_25)) ∧ σ.mem (1, 2) = some [(.l .shr s.nodes.length (encL s.nodes)), (.l .shr s.next.length (encL s.next))] ∧ σ.mem (1, 3) = some [(.s (.int .i64 k_))] ∧ Tight (1) σ.mem ∧ NoBox [(1, 2), (1, 3)] σ.mem) := ⟨_, rfl⟩
  refine loopP ({ hd := [2, 6, 7, 16, 17], bx := [], ex := [6, 7], rt := [4, 5] }) I_5 X_6 h_26 (by exact rfl) ?_ ?_ ?_
  · rw [I_5_]
    exact ⟨by simp [restrict_env], by simp [restrict_env], by simp [restrict_env], by simp [restrict_env], by simp [restrict_env], by simp [restrict_mem], by simp [restrict_mem], (by repeat (first | exact tight_mem0 _ | exact hT.up | exact hT | refine Tight.restrict ?_ | refine Tight.upd ?_ (by simp) (by simp))), NoBox.restrict (by intro k hk hb; simp at hk hb; simp [hk, hb])⟩
  · intro s_3 σ_7 a_4 hI hp
    rw [I_5_] at hI
    obtain ⟨q_8, q_9, q_10, q_11, q_12, q_13, q_14, ht_15, hn_16⟩ := hI
    try simp [q_8, q_9, q_10, q_11, q_12, q_13, q_14]
    rcases cond_cases hp with ⟨h_17, hp⟩ | ⟨h_17, hp⟩
    · try simp at h_17
      try simp [q_8, q_9, q_10, q_11, q_12, q_13, q_14, h_17]
      rcases cond_cases hp with ⟨h_18, hp⟩ | ⟨h_18, hp⟩
      · try simp at h_18
        obtain ⟨y_19, h_20, hp⟩ := bind_some hp
        have c_21 := C81_eq h_20
        simp at c_21
        try simp [q_8, q_9, q_10, q_11, q_12, q_13, q_14, h_17, h_18, c_21]
        rcases cond_cases hp with ⟨h_22, hp⟩ | ⟨h_22, hp⟩
        · try simp at h_22
          obtain ⟨_, h_23, hp⟩ := bind_some hp
          have b_24 := room_ok h_23
          try simp at b_24
          cases hp
          try simp [q_8, q_9, q_10, q_11, q_12, q_13, q_14, h_17, h_18, h_22, b_24]
          refine goal_next ?_
          rw [I_5_]
          exact ⟨by simp [restrict_env, q_8, q_9, q_10, q_11, q_12, q_13, q_14, h_17, h_18, h_22, b_24], by simp [restrict_env, q_8, q_9, q_10, q_11, q_12, q_13, q_14, h_17, h_18, h_22, b_24], by simp [restrict_env, q_8, q_9, q_10, q_11, q_12, q_13, q_14, h_17, h_18, h_22, b_24], by simp [restrict_env, q_8, q_9, q_10, q_11, q_12, q_13, q_14, h_17, h_18, h_22, b_24], by simp [restrict_env, q_8, q_9, q_10, q_11, q_12, q_13, q_14, h_17, h_18, h_22, b_24], by simp [restrict_mem, q_8, q_9, q_10, q_11, q_12, q_13, q_14, h_17, h_18, h_22, b_24], by simp [restrict_mem, q_8, q_9, q_10, q_11, q_12, q_13, q_14, h_17, h_18, h_22, b_24], (by repeat (first | exact ht_15 | exact tight_mem0 _ | exact hT.up | exact hT | refine Tight.restrict ?_ | refine Tight.upd ?_ (by simp) (by simp))), NoBox.restrict (by intro k hk hb; simp at hk hb; simp [hk, hb, q_8, q_9, q_10, q_11, q_12, q_13, q_14, h_17, h_18, h_22, b_24, hn_16 k (by simp [hk, hb])])⟩
        · try simp at h_22
          cases hp
          try simp [q_8, q_9, q_10, q_11, q_12, q_13, q_14, h_17, h_18, h_22]
          refine goal_next ?_
          rw [I_5_]
          exact ⟨by simp [restrict_env, q_8, q_9, q_10, q_11, q_12, q_13, q_14, h_17, h_18, h_22], by simp [restrict_env, q_8, q_9, q_10, q_11, q_12, q_13, q_14, h_17, h_18, h_22], by simp [restrict_env, q_8, q_9, q_10, q_11, q_12, q_13, q_14, h_17, h_18, h_22], by simp [restrict_env, q_8, q_9, q_10, q_11, q_12, q_13, q_14, h_17, h_18, h_22], by simp [restrict_env, q_8, q_9, q_10, q_11, q_12, q_13, q_14, h_17, h_18, h_22], by simp [restrict_mem, q_8, q_9, q_10, q_11, q_12, q_13, q_14, h_17, h_18, h_22], by simp [restrict_mem, q_8, q_9, q_10, q_11, q_12, q_13, q_14, h_17, h_18, h_22], (by repeat (first | exact ht_15 | exact tight_mem0 _ | exact hT.up | exact hT | refine Tight.restrict ?_ | refine Tight.upd ?_ (by simp) (by simp))), NoBox.restrict (by intro k hk hb; simp at hk hb; simp [hk, hb, q_8, q_9, q_10, q_11, q_12, q_13, q_14, h_17, h_18, h_22, hn_16 k (by simp [hk, hb])])⟩
      · try simp at h_18
        cases hp
        try simp [q_8, q_9, q_10, q_11, q_12, q_13, q_14, h_17, h_18]
        refine goal_next ?_
        rw [I_5_]
        exact ⟨by simp [restrict_env, q_8, q_9, q_10, q_11, q_12, q_13, q_14, h_17, h_18], by simp [restrict_env, q_8, q_9, q_10, q_11, q_12, q_13, q_14, h_17, h_18], by simp [restrict_env, q_8, q_9, q_10, q_11, q_12, q_13, q_14, h_17, h_18], by simp [restrict_env, q_8, q_9, q_10, q_11, q_12, q_13, q_14, h_17, h_18], by simp [restrict_env, q_8, q_9, q_10, q_11, q_12, q_13, q_14, h_17, h_18], by simp [restrict_mem, q_8, q_9, q_10, q_11, q_12, q_13, q_14, h_17, h_18], by simp [restrict_mem, q_8, q_9, q_10, q_11, q_12, q_13, q_14, h_17, h_18], (by repeat (first | exact ht_15 | exact tight_mem0 _ | exact hT.up | exact hT | refine Tight.restrict ?_ | refine Tight.upd ?_ (by simp) (by simp))), NoBox.restrict (by intro k hk hb; simp at hk hb; simp [hk, hb, q_8, q_9, q_10, q_11, q_12, q_13, q_14, h_17, h_18, hn_16 k (by simp [hk, hb])])⟩
    · try simp at h_17
      cases hp
      try simp [q_8, q_9, q_10, q_11, q_12, q_13, q_14, h_17]
      refine goal_outX ?_
      rw [X_6_]
      exact ⟨_, rfl, by simp [restrict_env, q_8, q_9, q_10, q_11, q_12, q_13, q_14, h_17], by simp [restrict_env, q_8, q_9, q_10, q_11, q_12, q_13, q_14, h_17], by simp [restrict_mem, q_8, q_9, q_10, q_11, q_12, q_13, q_14, h_17], by simp [restrict_mem, q_8, q_9, q_10, q_11, q_12, q_13, q_14, h_17], (by repeat (first | exact ht_15 | exact tight_mem0 _ | exact hT.up | exact hT | refine Tight.restrict ?_ | refine Tight.upd ?_ (by simp) (by simp))), NoBox.restrict (by intro k hk hb; simp at hk hb; simp [hk, hb, q_8, q_9, q_10, q_11, q_12, q_13, q_14, h_17, hn_16 k (by simp [hk, hb])])⟩
  · intro out hX
    rw [X_6_] at hX
    obtain ⟨σ_27, rfl, q_28, q_29, q_30, q_31, ht_32, hn_33⟩ := hX
    cases hp
    simp [Goal, FnEnd, retR, rsrc, RSrc.val, nodupR, nodup, tupPart, q_28, q_29, q_30, q_31]
theorem pc77 : PC Try.prog 77 C77 := pc_of (g := g77) (ctxOK_of [(49, C49), (81, C81)] rfl ⟨pc49, pc81, trivial⟩) ⟨Try.f77, Try.func77, by kernel_rfl, by kernel_rfl⟩ fun x y h => w77 h
end Go.Proofs
