import Derived.Test.YtmmliafoddlgfaaGreatEvA14
set_option linter.unusedSimpArgs false
set_option linter.unusedVariables false
set_option linter.unnecessarySimpa false
set_option maxHeartbeats 4000000
set_option maxRecDepth 100000
namespace Go.Proofs
open Go.Ev
noncomputable def C130 : List AV → Option AV := specP (X := (List Int) × Int × Unit) fun x => spec_l7New x.1 x.2.1
theorem C130_eq {order cell} {y} (h : spec_l7New order cell = some y) : C130 [av .shr order, av .shr cell] = some (Res.res y) := zag (X := (List Int) × Int × Unit) (F := fun x => spec_l7New x.1 x.2.1) (x := (order, cell, ())) h
noncomputable def g130 : Cfg := { P := Tryz.prog, take := [], keep := [], gho := [], ctx := [(151, C151)] }
@[simp] theorem g130_s : g130.P = Tryz.prog ∧ g130.take = [] ∧ g130.gho = [] ∧ g130.ro = [] ∧ g130.away = [] ∧ g130.give = [] ∧ g130.octx = [] ∧ lookN 151 g130.ctx = some C151 := by rw [g130]; exact ⟨rfl, rfl, rfl, rfl, rfl, rfl, rfl, rfl⟩
theorem w130 {order cell} {y} (hp : spec_l7New order cell = some y) : ∃ m, callo g130 0 130 [av .shr order, av .shr cell] mem0 = some (Res.res y, m) := by
  refine zah (Tryz.f130.body.getD .skip) [.tmp 4] rfl rfl Tryz.func130 (by kernel_rfl) (by kernel_rfl) (by simp [Tryz.ntmps130]) rfl ?_
  unfold spec_l7New at hp
  obtain ⟨y_1, h_2, hp⟩ := zaa hp
  have c_3 := C151_eq h_2
  simp at c_3
  simp [Tryz.f130, c_3]
  rcases zad hp with ⟨h_4, hp⟩ | ⟨h_4, hp⟩
  ·try simp at h_4
   cases hp
   simp [Goal, FnEnd, h_4]
  ·try simp at h_4
   obtain ⟨e_5, h_6, hp⟩ := zaa hp
   have b_8 := at_hi h_6
   try simp at b_8
   have c_9 := seg_at' h_6 0 1 (by decide) (ds := [.sc (.int .i64 e_5)]) rfl
   try simp at c_9
   cases hp
   simp [Goal, FnEnd, h_4, b_8, c_9]
theorem pc130 : PC Tryz.prog 130 C130 := pc_of (g := g130) (zai [(151, C151)] rfl ⟨pc151, trivial⟩) ⟨Tryz.f130, Tryz.func130, by kernel_rfl, by kernel_rfl⟩ fun x y h => w130 h

noncomputable def C88 : List AV → Option AV := specP (X := THeap × Unit) fun x => spec_CanonHeap x.1
theorem C88_eq {h_} {y} (h : spec_CanonHeap h_ = some y) : C88 [av .shr h_] = some (Res.res y) := zag (X := THeap × Unit) (F := fun x => spec_CanonHeap x.1) (x := (h_, ())) h
noncomputable def g88 : Cfg := { P := Tryz.prog, take := [(88, 22), (88, 40), (88, 54)], keep := [((88, 6), { hd := [1, 2, 3, 4, 5], bx := [], ex := [1, 2, 3, 4], rt := [2] }), ((88, 10), { hd := [1, 2, 3, 4, 6], bx := [], ex := [2, 4], rt := [2] })], gho := [], ctx := [(78, C78), (80, C80), (130, C130)] }
@[simp] theorem g88_s : g88.P = Tryz.prog ∧ g88.take = [(88, 22), (88, 40), (88, 54)] ∧ g88.gho = [] ∧ g88.ro = [] ∧ g88.away = [] ∧ g88.give = [] ∧ g88.octx = [] ∧ lookN 78 g88.ctx = some C78 ∧ lookN 80 g88.ctx = some C80 ∧ lookN 130 g88.ctx = some C130 := by rw [g88]; exact ⟨rfl, rfl, rfl, rfl, rfl, rfl, rfl, rfl, rfl, rfl⟩
theorem w88 {h_} {y} (hp : spec_CanonHeap h_ = some y) : ∃ m, callo g88 0 88 [av .shr h_] mem0 = some (Res.res y, m) := by
  refine zah (Tryz.f88.body.getD .skip) [.cell 2 31] rfl rfl Tryz.func88 (by kernel_rfl) (by kernel_rfl) (by simp [Tryz.ntmps88]) rfl ?_
  unfold spec_CanonHeap at hp
  obtain ⟨y_1, h_2, hp⟩ := zaa hp
  have c_3 := C78_eq h_2
  simp at c_3
  simp [Tryz.f88, c_3]
  rcases zad hp with ⟨h_4, hp⟩ | ⟨h_4, hp⟩
  ·try simp at h_4
   obtain ⟨y_5, h_6, hp⟩ := zaa hp
   have c_7 := C80_eq h_6
   simp at c_7
   try simp [h_4, c_7]
   obtain ⟨r_33, h_34, hp⟩ := zaa hp
   obtain ⟨I_10, I_10_⟩ : ∃ I : Int × (List Int) → St → Prop, I = (fun (s_8 : Int × (List Int)) (σ : St) => σ.env 1 = .one (.ptr (1, 1) 0) ∧ σ.env 2 = .one (.ptr (1, 2) 0) ∧ σ.env 3 = .one (.l .own y_5.length (encL y_5)) ∧ σ.env 4 = .one (.ptr (1, 4) 0) ∧ σ.env 5 = .one (.s (.int .i64 s_8.1)) ∧ σ.mem (1, 1) = some [(.l .shr h_.vars.length (encL h_.vars)), (.l .shr h_.next.length (encL h_.next))] ∧ σ.mem (1, 2) = some [(.l .own 0 []), (.l .own 0 [])] ∧ σ.mem (1, 4) = some [(.l .own s_8.2.length (encL s_8.2)), (.l .own 0 [])] ∧ NoBox [(1, 1), (1, 2), (1, 4)] σ.mem) := ⟨_, rfl⟩
   obtain ⟨X_11, X_11_⟩ : ∃ X : (List Int) → Out → Prop, X = (fun (r_33 : (List Int)) (out : Out) => ∃ σ : St, out = .exit 0 σ ∧ σ.env 1 = .one (.ptr (1, 1) 0) ∧ σ.env 2 = .one (.ptr (1, 2) 0) ∧ σ.env 3 = .one (.l .own y_5.length (encL y_5)) ∧ σ.env 4 = .one (.ptr (1, 4) 0) ∧ σ.mem (1, 1) = some [(.l .shr h_.vars.length (encL h_.vars)), (.l .shr h_.next.length (encL h_.next))] ∧ σ.mem (1, 2) = some [(.l .own 0 []), (.l .own 0 [])] ∧ σ.mem (1, 4) = some [(.l .own r_33.length (encL r_33)), (.l .own 0 [])] ∧ NoBox [(1, 1), (1, 2), (1, 4)] σ.mem) := ⟨_, rfl⟩
   refine loopP ({ hd := [1, 2, 3, 4, 5], bx := [], ex := [1, 2, 3, 4], rt := [2] }) I_10 X_11 h_34 (by exact rfl) ?_ ?_ ?_
   ·rw [I_10_]
    refine ⟨?_, ?_, ?_, ?_, ?_, ?_, ?_, ?_, NoBox.restrict (by intro k hk hb; simp at hk hb; simp [hk, hb, h_4])⟩ <;> simp [zab, zac, h_4]
   ·intro s_8 σ_12 a_9 hI hp
    rw [I_10_] at hI
    obtain ⟨q_13, q_14, q_15, q_16, q_17, q_18, q_19, q_20, hn_21⟩ := hI
    try simp [h_4, q_13, q_14, q_15, q_16, q_17, q_18, q_19, q_20]
    rcases zad hp with ⟨h_22, hp⟩ | ⟨h_22, hp⟩
    ·try simp at h_22
     obtain ⟨e_23, h_24, hp⟩ := zaa hp
     have b_25 := at_lo h_24
     have b_26 := at_hi h_24
     try simp at b_25 b_26
     have c_27 := seg_at' h_24 0 1 (by decide) (ds := [.sc (.int .i64 e_23)]) rfl
     try simp at c_27
     obtain ⟨y_28, h_29, hp⟩ := zaa hp
     have c_30 := C130_eq h_29
     simp at c_30
     obtain ⟨_, h_31, hp⟩ := zaa hp
     have b_32 := room_ok h_31
     try simp at b_32
     cases hp
     try simp [h_4, q_13, q_14, q_15, q_16, q_17, q_18, q_19, q_20, h_22, b_25, b_26, c_27, c_30, b_32]
     refine zak ?_
     rw [I_10_]
     refine ⟨?_, ?_, ?_, ?_, ?_, ?_, ?_, ?_, NoBox.restrict (by intro k hk hb; simp at hk hb; simp [hk, hb, h_4, q_13, q_14, q_15, q_16, q_17, q_18, q_19, q_20, h_22, b_25, b_26, c_27, c_30, b_32, hn_21 k (by simp [hk, hb])])⟩ <;> simp [zab, zac, h_4, q_13, q_14, q_15, q_16, q_17, q_18, q_19, q_20, h_22, b_25, b_26, c_27, c_30, b_32]
    ·try simp at h_22
     cases hp
     try simp [h_4, q_13, q_14, q_15, q_16, q_17, q_18, q_19, q_20, h_22]
     refine zan ?_
     rw [X_11_]
     refine ⟨_, rfl, ?_, ?_, ?_, ?_, ?_, ?_, ?_, NoBox.restrict (by intro k hk hb; simp at hk hb; simp [hk, hb, h_4, q_13, q_14, q_15, q_16, q_17, q_18, q_19, q_20, h_22, hn_21 k (by simp [hk, hb])])⟩ <;> simp [zab, zac, h_4, q_13, q_14, q_15, q_16, q_17, q_18, q_19, q_20, h_22]
   ·intro out hX
    rw [X_11_] at hX
    obtain ⟨σ_35, rfl, q_36, q_37, q_38, q_39, q_40, q_41, q_42, hn_43⟩ := hX
    try simp [h_4, q_36, q_37, q_38, q_39, q_40, q_41, q_42]
    obtain ⟨r_74, h_75, hp⟩ := zaa hp
    obtain ⟨I_46, I_46_⟩ : ∃ I : Int × (List Int) → St → Prop, I = (fun (s_44 : Int × (List Int)) (σ : St) => σ.env 1 = .one (.ptr (1, 1) 0) ∧ σ.env 2 = .one (.ptr (1, 2) 0) ∧ σ.env 3 = .one (.l .own y_5.length (encL y_5)) ∧ σ.env 4 = .one (.ptr (1, 4) 0) ∧ σ.env 6 = .one (.s (.int .i64 s_44.1)) ∧ σ.mem (1, 1) = some [(.l .shr h_.vars.length (encL h_.vars)), (.l .shr h_.next.length (encL h_.next))] ∧ σ.mem (1, 2) = some [(.l .own 0 []), (.l .own 0 [])] ∧ σ.mem (1, 4) = some [(.l .own r_33.length (encL r_33)), (.l .own s_44.2.length (encL s_44.2))] ∧ NoBox [(1, 1), (1, 2), (1, 4)] σ.mem) := ⟨_, rfl⟩
    obtain ⟨X_47, X_47_⟩ : ∃ X : (List Int) → Out → Prop, X = (fun (r_74 : (List Int)) (out : Out) => ∃ σ : St, out = .exit 2 σ ∧ σ.env 2 = .one (.ptr (1, 2) 0) ∧ σ.env 4 = .one (.ptr (1, 4) 0) ∧ σ.mem (1, 1) = some [(.l .shr h_.vars.length (encL h_.vars)), (.l .shr h_.next.length (encL h_.next))] ∧ σ.mem (1, 2) = some [(.l .own 0 []), (.l .own 0 [])] ∧ σ.mem (1, 4) = some [(.l .own r_33.length (encL r_33)), (.l .own r_74.length (encL r_74))] ∧ NoBox [(1, 1), (1, 2), (1, 4)] σ.mem) := ⟨_, rfl⟩
    refine loopP ({ hd := [1, 2, 3, 4, 6], bx := [], ex := [2, 4], rt := [2] }) I_46 X_47 h_75 (by exact rfl) ?_ ?_ ?_
    ·rw [I_46_]
     refine ⟨?_, ?_, ?_, ?_, ?_, ?_, ?_, ?_, NoBox.restrict (by intro k hk hb; simp at hk hb; simp [hk, hb, h_4, q_36, q_37, q_38, q_39, q_40, q_41, q_42, hn_43 k (by simp [hk, hb])])⟩ <;> simp [zab, zac, h_4, q_36, q_37, q_38, q_39, q_40, q_41, q_42]
    ·intro s_44 σ_48 a_45 hI hp
     rw [I_46_] at hI
     obtain ⟨q_49, q_50, q_51, q_52, q_53, q_54, q_55, q_56, hn_57⟩ := hI
     try simp [h_4, q_49, q_50, q_51, q_52, q_53, q_54, q_55, q_56]
     rcases zad hp with ⟨h_58, hp⟩ | ⟨h_58, hp⟩
     ·try simp at h_58
      obtain ⟨e_59, h_60, hp⟩ := zaa hp
      have b_61 := at_lo h_60
      have b_62 := at_hi h_60
      try simp at b_61 b_62
      have c_63 := seg_at' h_60 0 1 (by decide) (ds := [.sc (.int .i64 e_59)]) rfl
      try simp at c_63
      obtain ⟨e_64, h_65, hp⟩ := zaa hp
      have b_66 := at_lo h_65
      have b_67 := at_hi h_65
      try simp at b_66 b_67
      have c_68 := seg_at' h_65 0 1 (by decide) (ds := [.sc (.int .i64 e_64)]) rfl
      try simp at c_68
      obtain ⟨y_69, h_70, hp⟩ := zaa hp
      have c_71 := C130_eq h_70
      simp at c_71
      obtain ⟨_, h_72, hp⟩ := zaa hp
      have b_73 := room_ok h_72
      try simp at b_73
      cases hp
      try simp [h_4, q_49, q_50, q_51, q_52, q_53, q_54, q_55, q_56, h_58, b_61, b_62, c_63, b_66, b_67, c_68, c_71, b_73]
      refine zak ?_
      rw [I_46_]
      refine ⟨?_, ?_, ?_, ?_, ?_, ?_, ?_, ?_, NoBox.restrict (by intro k hk hb; simp at hk hb; simp [hk, hb, h_4, q_49, q_50, q_51, q_52, q_53, q_54, q_55, q_56, h_58, b_61, b_62, c_63, b_66, b_67, c_68, c_71, b_73, hn_57 k (by simp [hk, hb])])⟩ <;> simp [zab, zac, h_4, q_49, q_50, q_51, q_52, q_53, q_54, q_55, q_56, h_58, b_61, b_62, c_63, b_66, b_67, c_68, c_71, b_73]
     ·try simp at h_58
      cases hp
      try simp [h_4, q_49, q_50, q_51, q_52, q_53, q_54, q_55, q_56, h_58]
      refine zan ?_
      rw [X_47_]
      refine ⟨_, rfl, ?_, ?_, ?_, ?_, ?_, NoBox.restrict (by intro k hk hb; simp at hk hb; simp [hk, hb, h_4, q_49, q_50, q_51, q_52, q_53, q_54, q_55, q_56, h_58, hn_57 k (by simp [hk, hb])])⟩ <;> simp [zab, zac, h_4, q_49, q_50, q_51, q_52, q_53, q_54, q_55, q_56, h_58]
    ·intro out hX
     rw [X_47_] at hX
     obtain ⟨σ_76, rfl, q_77, q_78, q_79, q_80, q_81, hn_82⟩ := hX
     cases hp
     simp [Goal, FnEnd, retR, rsrc, RSrc.val, nodupR, nodup, tupPart, h_4, q_77, q_78, q_79, q_80, q_81]
  ·try simp at h_4
   cases hp
   simp [Goal, FnEnd, retR, rsrc, RSrc.val, nodupR, nodup, tupPart, h_4]
theorem pc88 : PC Tryz.prog 88 C88 := pc_of (g := g88) (zai [(78, C78), (80, C80), (130, C130)] rfl ⟨pc78, pc80, pc130, trivial⟩) ⟨Tryz.f88, Tryz.func88, by kernel_rfl, by kernel_rfl⟩ fun x y h => w88 h

noncomputable def C50 : List AV → Option AV := specP (X := (List ByteArray) × TStmt × THeap × Unit) fun x => spec_Exec x.1 x.2.1 x.2.2.1
theorem C50_eq {vars s h_} {y} (h : spec_Exec vars s h_ = some y) : C50 [av .shr vars, av .shr s, av .shr h_] = some (Res.res y) := zag (X := (List ByteArray) × TStmt × THeap × Unit) (F := fun x => spec_Exec x.1 x.2.1 x.2.2.1) (x := (vars, s, h_, ())) h
noncomputable def g50 : Cfg := { P := Tryz.prog, take := [(50, 72)], keep := [], gho := [], ctx := [(47, C47), (48, C48), (76, C76), (81, C81), (82, C82), (83, C83), (84, C84), (85, C85), (87, C87), (88, C88)], give := [(50, 78)], octx := [(86, C86)] }
@[simp] theorem g50_s : g50.P = Tryz.prog ∧ g50.take = [(50, 72)] ∧ g50.gho = [] ∧ g50.ro = [] ∧ g50.away = [] ∧ g50.give = [(50, 78)] ∧ g50.octx = [(86, C86)] ∧ lookN 47 g50.ctx = some C47 ∧ lookN 48 g50.ctx = some C48 ∧ lookN 76 g50.ctx = some C76 ∧ lookN 81 g50.ctx = some C81 ∧ lookN 82 g50.ctx = some C82 ∧ lookN 83 g50.ctx = some C83 ∧ lookN 84 g50.ctx = some C84 ∧ lookN 85 g50.ctx = some C85 ∧ lookN 87 g50.ctx = some C87 ∧ lookN 88 g50.ctx = some C88 := by rw [g50]; exact ⟨rfl, rfl, rfl, rfl, rfl, rfl, rfl, rfl, rfl, rfl, rfl, rfl, rfl, rfl, rfl, rfl, rfl⟩
theorem kj50 {g : Cfg} {d f : Nat} (id : Nat) (ops : Array Oper) (draw : Bool) (K : List It) (σ : St) (h : [1, 5, 9].contains id = false) : evk g d f (.region id ops draw) K σ = ghoK g d f ((lookK (f, id) g.gho).getD []) ops (behK ((lookK (f, behind id) g.gho).getD []) K) σ := k_regionS id ops draw K σ h
theorem w50 {vars s h_} {y} (hp : spec_Exec vars s h_ = some y) : ∃ m, callo g50 0 50 [av .shr vars, av .shr s, av .shr h_] mem0 = some (Res.res y, m) := by
  refine zah (Tryz.f50.body.getD .skip) [.cell 6 31, .tmp 7] rfl rfl Tryz.func50 (by kernel_rfl) (by kernel_rfl) (by simp [Tryz.ntmps50]) rfl ?_
  unfold spec_Exec at hp
  simp [Tryz.f50, -zae, kj50]
  obtain ⟨r_1, h_2, hp⟩ := zaa hp
  refine joinP (J := fun (σ : St) => σ.env 0 = .one (.l .shr vars.length (encL vars)) ∧ σ.env 4 = .one (.ptr (1, 4) 0) ∧ σ.env 5 = .one (.ptr (1, 5) 0) ∧ σ.env 6 = .one (.ptr (1, 6) 0) ∧ σ.env 22 = .one (.s (.bool r_1)) ∧ σ.mem (1, 4) = some [(.s (.int .i64 s.kind)), (.s (.string s.a)), (.s (.string s.b))] ∧ σ.mem (1, 5) = some [(.l .shr h_.vars.length (encL h_.vars)), (.l .shr h_.next.length (encL h_.next))] ∧ σ.mem (1, 6) = some [(.l .own 0 []), (.l .own 0 [])] ∧ NoBox [(1, 4), (1, 5), (1, 6)] σ.mem) ?_ ?_
  ·replace hp := h_2
   rw [zae]
   obtain ⟨y_13, h_14, hp⟩ := zaa hp
   have c_15 := C76_eq h_14
   simp at c_15
   try simp [-zae, kj50, c_15]
   rcases zad hp with ⟨h_16, hp⟩ | ⟨h_16, hp⟩
   ·try simp at h_16
    obtain ⟨y_17, h_18, hp⟩ := zaa hp
    have c_19 := C47_eq h_18
    simp at c_19
    cases hp
    try simp [-zae, kj50, h_16, c_19]
    refine goal_join ?_
    refine ⟨?_, ?_, ?_, ?_, ?_, ?_, ?_, ?_, (by intro k hk; simp at hk; simp [hk, -zae, kj50, h_16, c_19])⟩ <;> simp [zab, zac, -zae, kj50, h_16, c_19]
   ·try simp at h_16
    cases hp
    try simp [-zae, kj50, h_16]
    refine goal_join ?_
    refine ⟨?_, ?_, ?_, ?_, ?_, ?_, ?_, ?_, (by intro k hk; simp at hk; simp [hk, -zae, kj50, h_16])⟩ <;> simp [zab, zac, -zae, kj50, h_16]
  ·intro σ_3 hJ
   obtain ⟨q_4, q_5, q_6, q_7, q_8, q_9, q_10, q_11, hn_12⟩ := hJ
   try simp [-zae, kj50, q_4, q_5, q_6, q_7, q_8, q_9, q_10, q_11]
   rcases zad hp with ⟨h_20, hp⟩ | ⟨h_20, hp⟩
   ·try simp at h_20
    cases hp
    simp [Goal, FnEnd, retR, rsrc, RSrc.val, nodupR, nodup, tupPart, -zae, kj50, q_4, q_5, q_6, q_7, q_8, q_9, q_10, q_11, h_20]
   ·try simp at h_20
    obtain ⟨y_21, h_22, hp⟩ := zaa hp
    have c_23 := C82_eq h_22
    simp at c_23
    obtain ⟨y_24, h_25, hp⟩ := zaa hp
    have c_26 := C81_eq h_25
    simp at c_26
    obtain ⟨y_27, h_28, hp⟩ := zaa hp
    have c_29 := C82_eq h_28
    simp at c_29
    obtain ⟨y_30, h_31, hp⟩ := zaa hp
    have c_32 := C81_eq h_31
    simp at c_32
    try simp [-zae, kj50, q_4, q_5, q_6, q_7, q_8, q_9, q_10, q_11, h_20, c_23, c_26, c_29, c_32]
    obtain ⟨r_33, h_34, hp⟩ := zaa hp
    refine joinP (J := fun (σ : St) => σ.env 4 = .one (.ptr (1, 4) 0) ∧ σ.env 5 = .one (.ptr (1, 5) 0) ∧ σ.env 6 = .one (.ptr (1, 6) 0) ∧ σ.env 8 = .one (.s (.int .i64 y_24)) ∧ σ.env 9 = .one (.s (.int .i64 y_30)) ∧ σ.env 34 = .one (.s (.bool r_33)) ∧ σ.mem (1, 4) = some [(.s (.int .i64 s.kind)), (.s (.string s.a)), (.s (.string s.b))] ∧ σ.mem (1, 5) = some [(.l .shr h_.vars.length (encL h_.vars)), (.l .shr h_.next.length (encL h_.next))] ∧ σ.mem (1, 6) = some [(.l .own 0 []), (.l .own 0 [])] ∧ NoBox [(1, 4), (1, 5), (1, 6)] σ.mem) ?_ ?_
    ·replace hp := h_34
     rw [zae]
     obtain ⟨y_46, h_47, hp⟩ := zaa hp
     have c_48 := C83_eq h_47
     simp at c_48
     try simp [-zae, kj50, q_4, q_5, q_6, q_7, q_8, q_9, q_10, q_11, h_20, c_23, c_26, c_29, c_32, c_48]
     rcases zad hp with ⟨h_49, hp⟩ | ⟨h_49, hp⟩
     ·try simp at h_49
      obtain ⟨e_50, h_51, hp⟩ := zaa hp
      have b_52 := at_lo h_51
      have b_53 := at_hi h_51
      try simp at b_52 b_53
      have c_54 := seg_at' h_51 0 1 (by decide) (ds := [.sc (.int .i64 e_50)]) rfl
      try simp at c_54
      obtain ⟨e_55, h_56, hp⟩ := zaa hp
      have b_57 := at_lo h_56
      have b_58 := at_hi h_56
      try simp at b_57 b_58
      have c_59 := seg_at' h_56 0 1 (by decide) (ds := [.sc (.int .i64 e_55)]) rfl
      try simp at c_59
      obtain ⟨y_60, h_61, hp⟩ := zaa hp
      have c_62 := C84_eq h_61
      simp at c_62
      cases hp
      try simp [-zae, kj50, q_4, q_5, q_6, q_7, q_8, q_9, q_10, q_11, h_20, h_49, b_52, b_53, c_54, b_57, b_58, c_59, c_62]
      refine goal_join ?_
      refine ⟨?_, ?_, ?_, ?_, ?_, ?_, ?_, ?_, ?_, (by intro k hk; simp at hk; simp [hk, -zae, kj50, q_4, q_5, q_6, q_7, q_8, q_9, q_10, q_11, h_20, h_49, b_52, b_53, c_54, b_57, b_58, c_59, c_62, hn_12 k (by simp [hk])])⟩ <;> simp [zab, zac, -zae, kj50, q_4, q_5, q_6, q_7, q_8, q_9, q_10, q_11, h_20, h_49, b_52, b_53, c_54, b_57, b_58, c_59, c_62]
     ·try simp at h_49
      cases hp
      try simp [-zae, kj50, q_4, q_5, q_6, q_7, q_8, q_9, q_10, q_11, h_20, h_49]
      refine goal_join ?_
      refine ⟨?_, ?_, ?_, ?_, ?_, ?_, ?_, ?_, ?_, (by intro k hk; simp at hk; simp [hk, -zae, kj50, q_4, q_5, q_6, q_7, q_8, q_9, q_10, q_11, h_20, h_49, hn_12 k (by simp [hk])])⟩ <;> simp [zab, zac, -zae, kj50, q_4, q_5, q_6, q_7, q_8, q_9, q_10, q_11, h_20, h_49]
    ·intro σ_35 hJ
     obtain ⟨q_36, q_37, q_38, q_39, q_40, q_41, q_42, q_43, q_44, hn_45⟩ := hJ
     try simp [-zae, kj50, h_20, q_36, q_37, q_38, q_39, q_40, q_41, q_42, q_43, q_44]
     rcases zad hp with ⟨h_63, hp⟩ | ⟨h_63, hp⟩
     ·try simp at h_63
      cases hp
      simp [Goal, FnEnd, retR, rsrc, RSrc.val, nodupR, nodup, tupPart, -zae, kj50, h_20, q_36, q_37, q_38, q_39, q_40, q_41, q_42, q_43, q_44, h_63]
     ·try simp at h_63
      obtain ⟨y_64, h_65, hp⟩ := zaa hp
      have c_66 := C85_eq h_65
      simp at c_66
      try simp [-zae, kj50, h_20, q_36, q_37, q_38, q_39, q_40, q_41, q_42, q_43, q_44, h_63, c_66]
      rcases zad hp with ⟨h_67, hp⟩ | ⟨h_67, hp⟩
      ·try simp at h_67
       cases hp
       simp [Goal, FnEnd, retR, rsrc, RSrc.val, nodupR, nodup, tupPart, -zae, kj50, h_20, q_36, q_37, q_38, q_39, q_40, q_41, q_42, q_43, q_44, h_63, h_67]
      ·try simp at h_67
       try simp [-zae, kj50, h_20, q_36, q_37, q_38, q_39, q_40, q_41, q_42, q_43, q_44, h_63, h_67]
       obtain ⟨r_68, h_69, hp⟩ := zaa hp
       refine joinP (J := fun (σ : St) => σ.env 4 = .one (.ptr (1, 4) 0) ∧ σ.env 5 = .one (.ptr (1, 5) 0) ∧ σ.env 6 = .one (.ptr (1, 6) 0) ∧ σ.env 8 = .one (.s (.int .i64 y_24)) ∧ σ.env 9 = .one (.s (.int .i64 y_30)) ∧ σ.env 61 = .one (.s (.bool r_68)) ∧ σ.mem (1, 4) = some [(.s (.int .i64 s.kind)), (.s (.string s.a)), (.s (.string s.b))] ∧ σ.mem (1, 5) = some [(.l .shr h_.vars.length (encL h_.vars)), (.l .shr h_.next.length (encL h_.next))] ∧ σ.mem (1, 6) = some [(.l .own 0 []), (.l .own 0 [])] ∧ NoBox [(1, 4), (1, 5), (1, 6)] σ.mem) ?_ ?_
       ·replace hp := h_69
        rw [zae]
        try simp [-zae, kj50, h_20, q_36, q_37, q_38, q_39, q_40, q_41, q_42, q_43, q_44, h_63, h_67]
        rcases zad hp with ⟨h_81, hp⟩ | ⟨h_81, hp⟩
        ·try simp at h_81
         cases hp
         try simp [-zae, kj50, h_20, q_36, q_37, q_38, q_39, q_40, q_41, q_42, q_43, q_44, h_63, h_67, h_81]
         refine goal_join ?_
         refine ⟨?_, ?_, ?_, ?_, ?_, ?_, ?_, ?_, ?_, (by intro k hk; simp at hk; simp [hk, -zae, kj50, h_20, q_36, q_37, q_38, q_39, q_40, q_41, q_42, q_43, q_44, h_63, h_67, h_81, hn_45 k (by simp [hk])])⟩ <;> simp [zab, zac, -zae, kj50, h_20, q_36, q_37, q_38, q_39, q_40, q_41, q_42, q_43, q_44, h_63, h_67, h_81]
        ·try simp at h_81
         cases hp
         try simp [-zae, kj50, h_20, q_36, q_37, q_38, q_39, q_40, q_41, q_42, q_43, q_44, h_63, h_67, h_81]
         refine goal_join ?_
         refine ⟨?_, ?_, ?_, ?_, ?_, ?_, ?_, ?_, ?_, (by intro k hk; simp at hk; simp [hk, -zae, kj50, h_20, q_36, q_37, q_38, q_39, q_40, q_41, q_42, q_43, q_44, h_63, h_67, h_81, hn_45 k (by simp [hk])])⟩ <;> simp [zab, zac, -zae, kj50, h_20, q_36, q_37, q_38, q_39, q_40, q_41, q_42, q_43, q_44, h_63, h_67, h_81]
       ·intro σ_70 hJ
        obtain ⟨q_71, q_72, q_73, q_74, q_75, q_76, q_77, q_78, q_79, hn_80⟩ := hJ
        try simp [-zae, kj50, h_20, h_63, h_67, q_71, q_72, q_73, q_74, q_75, q_76, q_77, q_78, q_79]
        rcases zad hp with ⟨h_82, hp⟩ | ⟨h_82, hp⟩
        ·try simp at h_82
         cases hp
         simp [Goal, FnEnd, retR, rsrc, RSrc.val, nodupR, nodup, tupPart, -zae, kj50, h_20, h_63, h_67, q_71, q_72, q_73, q_74, q_75, q_76, q_77, q_78, q_79, h_82]
        ·try simp at h_82
         obtain ⟨y_83, h_84, hp⟩ := zaa hp
         have c_85 := C48_eq h_84
         simp at c_85
         obtain ⟨y_88, h_89, hp⟩ := zaa hp
         have c_90 := C86_eq h_89
         simp at c_90
         have n_91 := hn_80 (1, 10) (by simp)
         try simp [-zae, kj50, h_20, h_63, h_67, q_71, q_72, q_73, q_74, q_75, q_76, q_77, q_78, q_79, h_82, c_85, c_90, n_91]
         rcases zad hp with ⟨h_92, hp⟩ | ⟨h_92, hp⟩
         ·try simp at h_92
          cases hp
          simp [Goal, FnEnd, retR, rsrc, RSrc.val, nodupR, nodup, tupPart, -zae, kj50, h_20, h_63, h_67, q_71, q_72, q_73, q_74, q_75, q_76, q_77, q_78, q_79, h_82, h_92]
         ·try simp at h_92
          obtain ⟨y_93, h_94, hp⟩ := zaa hp
          have c_95 := C87_eq h_94
          simp at c_95
          try simp [-zae, kj50, h_20, h_63, h_67, q_71, q_72, q_73, q_74, q_75, q_76, q_77, q_78, q_79, h_82, h_92, c_95]
          rcases zad hp with ⟨h_96, hp⟩ | ⟨h_96, hp⟩
          ·try simp at h_96
           cases hp
           simp [Goal, FnEnd, retR, rsrc, RSrc.val, nodupR, nodup, tupPart, -zae, kj50, h_20, h_63, h_67, q_71, q_72, q_73, q_74, q_75, q_76, q_77, q_78, q_79, h_82, h_92, h_96]
          ·try simp at h_96
           obtain ⟨y_97, h_98, hp⟩ := zaa hp
           have c_99 := C88_eq h_98
           simp at c_99
           cases hp
           simp [Goal, FnEnd, retR, rsrc, RSrc.val, nodupR, nodup, tupPart, -zae, kj50, h_20, h_63, h_67, q_71, q_72, q_73, q_74, q_75, q_76, q_77, q_78, q_79, h_82, h_92, h_96, c_99]
theorem pc50 : PC Tryz.prog 50 C50 := pc_of (g := g50) (ctxOK_ofO [(47, C47), (48, C48), (76, C76), (81, C81), (82, C82), (83, C83), (84, C84), (85, C85), (87, C87), (88, C88)] rfl ⟨pc47, pc48, pc76, pc81, pc82, pc83, pc84, pc85, pc87, pc88, trivial⟩ [(86, C86)] rfl ⟨po86, trivial⟩) ⟨Tryz.f50, Tryz.func50, by kernel_rfl, by kernel_rfl⟩ fun x y h => w50 h

noncomputable def C10 : List AV → Option AV := specP (X := TProgram × THeap × (List Int) × Unit) fun x => spec_Follow x.1 x.2.1 x.2.2.1
theorem C10_eq {p_ h_ edges} {y} (h : spec_Follow p_ h_ edges = some y) : C10 [av .shr p_, av .shr h_, av .shr edges] = some (Res.res y) := zag (X := TProgram × THeap × (List Int) × Unit) (F := fun x => spec_Follow x.1 x.2.1 x.2.2.1) (x := (p_, h_, edges, ())) h
noncomputable def g10 : Cfg := { P := Tryz.prog, take := [(10, 59), (10, 69), (10, 81), (10, 86), (10, 88)], keep := [((10, 5), { hd := [2, 3, 6, 9, 10], bx := [11, 12], ex := [2, 6, 9], rt := [6, 7, 8] })], gho := [], ctx := [(46, C46), (47, C47), (48, C48), (49, C49), (50, C50)] }
@[simp] theorem g10_s : g10.P = Tryz.prog ∧ g10.take = [(10, 59), (10, 69), (10, 81), (10, 86), (10, 88)] ∧ g10.gho = [] ∧ g10.ro = [] ∧ g10.away = [] ∧ g10.give = [] ∧ g10.octx = [] ∧ lookN 46 g10.ctx = some C46 ∧ lookN 47 g10.ctx = some C47 ∧ lookN 48 g10.ctx = some C48 ∧ lookN 49 g10.ctx = some C49 ∧ lookN 50 g10.ctx = some C50 := by rw [g10]; exact ⟨rfl, rfl, rfl, rfl, rfl, rfl, rfl, rfl, rfl, rfl, rfl, rfl⟩
theorem w10 {p_ h_ edges} {y} (hp : spec_Follow p_ h_ edges = some y) : ∃ m, callo g10 0 10 [av .shr p_, av .shr h_, av .shr edges] mem0 = some (Res.res y, m) := by
  refine zah (Tryz.f10.body.getD .skip) [.cell 6 33, .tmp 7, .tmp 8] rfl rfl Tryz.func10 (by kernel_rfl) (by kernel_rfl) (by simp [Tryz.ntmps10]) rfl ?_
  unfold spec_Follow at hp
  obtain ⟨y_1, h_2, hp⟩ := zaa hp
  have c_3 := C46_eq h_2
  simp at c_3
  simp [Tryz.f10, c_3]
  rcases zad hp with ⟨h_4, hp⟩ | ⟨h_4, hp⟩
  ·try simp at h_4
   obtain ⟨y_5, h_6, hp⟩ := zaa hp
   have c_7 := C47_eq h_6
   simp at c_7
   try simp [h_4, c_7]
   rcases zad hp with ⟨h_8, hp⟩ | ⟨h_8, hp⟩
   ·try simp at h_8
    obtain ⟨y_9, h_10, hp⟩ := zaa hp
    have c_11 := C48_eq h_10
    simp at c_11
    try simp [h_4, h_8, c_11]
    obtain ⟨r_64, h_65, hp⟩ := zaa hp
    obtain ⟨I_14, I_14_⟩ : ∃ I : Int × Int × (List Int) × (List Int) → St → Prop, I = (fun (s_12 : Int × Int × (List Int) × (List Int)) (σ : St) => σ.env 2 = .one (.l .shr edges.length (encL edges)) ∧ σ.env 3 = .one (.ptr (1, 3) 0) ∧ σ.env 6 = .one (.ptr (1, 6) 0) ∧ σ.env 9 = .one (.ptr (1, 9) 0) ∧ σ.env 10 = .one (.s (.int .i64 s_12.1)) ∧ σ.mem (1, 3) = some [(.l .shr p_.vars.length (encL p_.vars)), (.s (.int .i64 p_.points)), (.l .shr p_.edges.length (encL p_.edges))] ∧ σ.mem (1, 4) = some [(.l .shr h_.vars.length (encL h_.vars)), (.l .shr h_.next.length (encL h_.next))] ∧ σ.mem (1, 6) = some [(.s (.int .i64 0)), (.l .own 0 []), (.l .own 0 [])] ∧ σ.mem (1, 9) = some [(.s (.int .i64 s_12.2.1)), (.l .own s_12.2.2.1.length (encL s_12.2.2.1)), (.l .own s_12.2.2.2.length (encL s_12.2.2.2))] ∧ NoBox [(1, 3), (1, 4), (1, 6), (1, 9)] σ.mem) := ⟨_, rfl⟩
    obtain ⟨X_15, X_15_⟩ : ∃ X : ((Int × Int × Int × (List Int) × (List Int)) ⊕ (Int × (List Int) × (List Int))) → Out → Prop, X = (fun (r_64 : (Int × Int × Int × (List Int) × (List Int)) ⊕ (Int × (List Int) × (List Int))) (out : Out) => Sum.elim (fun r_64 => ∃ σ : St, out = .ret σ ∧ σ.env 6 = .one (.ptr (1, 6) 0) ∧ σ.env 7 = .one (.s (.int .i64 r_64.1)) ∧ σ.env 8 = .one (.s (.int .i64 r_64.2.1)) ∧ σ.mem (1, 3) = some [(.l .shr p_.vars.length (encL p_.vars)), (.s (.int .i64 p_.points)), (.l .shr p_.edges.length (encL p_.edges))] ∧ σ.mem (1, 4) = some [(.l .shr h_.vars.length (encL h_.vars)), (.l .shr h_.next.length (encL h_.next))] ∧ σ.mem (1, 6) = some [(.s (.int .i64 r_64.2.2.1)), (.l .own r_64.2.2.2.1.length (encL r_64.2.2.2.1)), (.l .own r_64.2.2.2.2.length (encL r_64.2.2.2.2))] ∧ σ.mem (1, 9) = some [.dead, .dead, .dead] ∧ NoBox [(1, 3), (1, 4), (1, 6), (1, 9)] σ.mem) (fun r_64 => ∃ σ : St, out = .exit 0 σ ∧ σ.env 2 = .one (.l .shr edges.length (encL edges)) ∧ σ.env 6 = .one (.ptr (1, 6) 0) ∧ σ.env 9 = .one (.ptr (1, 9) 0) ∧ σ.mem (1, 3) = some [(.l .shr p_.vars.length (encL p_.vars)), (.s (.int .i64 p_.points)), (.l .shr p_.edges.length (encL p_.edges))] ∧ σ.mem (1, 4) = some [(.l .shr h_.vars.length (encL h_.vars)), (.l .shr h_.next.length (encL h_.next))] ∧ σ.mem (1, 6) = some [(.s (.int .i64 0)), (.l .own 0 []), (.l .own 0 [])] ∧ σ.mem (1, 9) = some [(.s (.int .i64 r_64.1)), (.l .own r_64.2.1.length (encL r_64.2.1)), (.l .own r_64.2.2.length (encL r_64.2.2))] ∧ NoBox [(1, 3), (1, 4), (1, 6), (1, 9)] σ.mem) r_64) := ⟨_, rfl⟩
    refine loopP ({ hd := [2, 3, 6, 9, 10], bx := [11, 12], ex := [2, 6, 9], rt := [6, 7, 8] }) I_14 X_15 h_65 (by exact rfl) ?_ ?_ ?_
    ·rw [I_14_]
     refine ⟨?_, ?_, ?_, ?_, ?_, ?_, ?_, ?_, ?_, NoBox.restrict (by intro k hk hb; simp at hk hb; simp [hk, hb, h_4, h_8])⟩ <;> simp [zab, zac, h_4, h_8]
    ·intro s_12 σ_16 a_13 hI hp
     rw [I_14_] at hI
     obtain ⟨q_17, q_18, q_19, q_20, q_21, q_22, q_23, q_24, q_25, hn_26⟩ := hI
     try simp [h_4, h_8, q_17, q_18, q_19, q_20, q_21, q_22, q_23, q_24, q_25]
     rcases zad hp with ⟨h_27, hp⟩ | ⟨h_27, hp⟩
     ·try simp at h_27
      obtain ⟨e_28, h_29, hp⟩ := zaa hp
      have b_30 := at_lo h_29
      have b_31 := at_hi h_29
      try simp at b_30 b_31
      have c_32 := seg_at' h_29 0 1 (by decide) (ds := [.sc (.int .i64 e_28)]) rfl
      try simp at c_32
      obtain ⟨y_33, h_34, hp⟩ := zaa hp
      have c_35 := C49_eq h_34
      simp at c_35
      try simp [h_4, h_8, q_17, q_18, q_19, q_20, q_21, q_22, q_23, q_24, q_25, h_27, b_30, b_31, c_32, c_35]
      rcases zad hp with ⟨h_36, hp⟩ | ⟨h_36, hp⟩
      ·try simp at h_36
       obtain ⟨e_37, h_38, hp⟩ := zaa hp
       cases Option.some.inj (h_29.symm.trans h_38)
       have b_39 := at_lo h_29
       have b_40 := at_hi h_29
       try simp at b_39 b_40
       have c_41 := seg_at' h_29 0 1 (by decide) (ds := [.sc (.int .i64 e_28)]) rfl
       try simp at c_41
       obtain ⟨e_42, h_43, hp⟩ := zaa hp
       have b_44 := at_lo h_43
       have b_45 := at_hi h_43
       try simp at b_44 b_45
       have c_46 := seg_at' h_43 0 1 (by decide) (ds := [.sc (.int .i64 e_42.from_)]) rfl
       try simp at c_46
       try simp [h_4, h_8, q_17, q_18, q_19, q_20, q_21, q_22, q_23, q_24, q_25, h_27, h_36, b_39, b_40, c_41, b_44, b_45, c_46]
       rcases zad hp with ⟨h_47, hp⟩ | ⟨h_47, hp⟩
       ·try simp at h_47
        cases hp
        try simp [h_4, h_8, q_17, q_18, q_19, q_20, q_21, q_22, q_23, q_24, q_25, h_27, h_36, h_47]
        refine zao ?_
        rw [X_15_]
        refine ⟨_, rfl, ?_, ?_, ?_, ?_, ?_, ?_, ?_, NoBox.restrict (by intro k hk hb; simp at hk hb; simp [hk, hb, h_4, h_8, q_17, q_18, q_19, q_20, q_21, q_22, q_23, q_24, q_25, h_27, h_36, h_47, hn_26 k (by simp [hk, hb])])⟩ <;> simp [zab, zac, h_4, h_8, q_17, q_18, q_19, q_20, q_21, q_22, q_23, q_24, q_25, h_27, h_36, h_47]
       ·try simp at h_47
        obtain ⟨e_48, h_49, hp⟩ := zaa hp
        cases Option.some.inj (h_29.symm.trans h_49)
        have b_50 := at_lo h_29
        have b_51 := at_hi h_29
        try simp at b_50 b_51
        have c_52 := seg_at' h_29 0 1 (by decide) (ds := [.sc (.int .i64 e_28)]) rfl
        try simp at c_52
        obtain ⟨e_53, h_54, hp⟩ := zaa hp
        cases Option.some.inj (h_43.symm.trans h_54)
        have b_55 := at_lo h_43
        have b_56 := at_hi h_43
        try simp at b_55 b_56
        have c_57 := seg_at' h_43 0 5 (by decide) (ds := [.sc (.int .i64 e_42.from_), .sc (.int .i64 e_42.to_), .sc (.int .i64 e_42.stmt.kind), .sc (.string e_42.stmt.a), .sc (.string e_42.stmt.b)]) rfl
        try simp at c_57
        have n_58 := hn_26 (1, 11) (by simp)
        obtain ⟨y_59, h_60, hp⟩ := zaa hp
        have c_61 := C50_eq h_60
        simp at c_61
        have n_62 := hn_26 (1, 12) (by simp)
        try simp [h_4, h_8, q_17, q_18, q_19, q_20, q_21, q_22, q_23, q_24, q_25, h_27, h_36, h_47, b_50, b_51, c_52, b_55, b_56, c_57, n_58, c_61, n_62]
        rcases zad hp with ⟨h_63, hp⟩ | ⟨h_63, hp⟩
        ·try simp at h_63
         cases hp
         try simp [h_4, h_8, q_17, q_18, q_19, q_20, q_21, q_22, q_23, q_24, q_25, h_27, h_36, h_47, h_63]
         refine zao ?_
         rw [X_15_]
         refine ⟨_, rfl, ?_, ?_, ?_, ?_, ?_, ?_, ?_, NoBox.restrict (by intro k hk hb; simp at hk hb; simp [hk, hb, h_4, h_8, q_17, q_18, q_19, q_20, q_21, q_22, q_23, q_24, q_25, h_27, h_36, h_47, h_63, hn_26 k (by simp [hk, hb])])⟩ <;> simp [zab, zac, h_4, h_8, q_17, q_18, q_19, q_20, q_21, q_22, q_23, q_24, q_25, h_27, h_36, h_47, h_63]
        ·try simp at h_63
         cases hp
         try simp [h_4, h_8, q_17, q_18, q_19, q_20, q_21, q_22, q_23, q_24, q_25, h_27, h_36, h_47, h_63]
         refine zak ?_
         rw [I_14_]
         refine ⟨?_, ?_, ?_, ?_, ?_, ?_, ?_, ?_, ?_, NoBox.restrict (by intro k hk hb; simp at hk hb; simp [hk, hb, h_4, h_8, q_17, q_18, q_19, q_20, q_21, q_22, q_23, q_24, q_25, h_27, h_36, h_47, h_63, hn_26 k (by simp [hk, hb])])⟩ <;> simp [zab, zac, h_4, h_8, q_17, q_18, q_19, q_20, q_21, q_22, q_23, q_24, q_25, h_27, h_36, h_47, h_63]
      ·try simp at h_36
       cases hp
       try simp [h_4, h_8, q_17, q_18, q_19, q_20, q_21, q_22, q_23, q_24, q_25, h_27, h_36]
       refine zao ?_
       rw [X_15_]
       refine ⟨_, rfl, ?_, ?_, ?_, ?_, ?_, ?_, ?_, NoBox.restrict (by intro k hk hb; simp at hk hb; simp [hk, hb, h_4, h_8, q_17, q_18, q_19, q_20, q_21, q_22, q_23, q_24, q_25, h_27, h_36, hn_26 k (by simp [hk, hb])])⟩ <;> simp [zab, zac, h_4, h_8, q_17, q_18, q_19, q_20, q_21, q_22, q_23, q_24, q_25, h_27, h_36]
     ·try simp at h_27
      cases hp
      try simp [h_4, h_8, q_17, q_18, q_19, q_20, q_21, q_22, q_23, q_24, q_25, h_27]
      refine zan ?_
      rw [X_15_]
      refine ⟨_, rfl, ?_, ?_, ?_, ?_, ?_, ?_, ?_, NoBox.restrict (by intro k hk hb; simp at hk hb; simp [hk, hb, h_4, h_8, q_17, q_18, q_19, q_20, q_21, q_22, q_23, q_24, q_25, h_27, hn_26 k (by simp [hk, hb])])⟩ <;> simp [zab, zac, h_4, h_8, q_17, q_18, q_19, q_20, q_21, q_22, q_23, q_24, q_25, h_27]
    ·intro out hX
     rw [X_15_] at hX
     rcases r_64 with r_64 | r_64
     ·simp only [Sum.elim_inl, Sum.elim_inr] at hX hp
      obtain ⟨σ_66, rfl, q_67, q_68, q_69, q_70, q_71, q_72, q_73, hn_74⟩ := hX
      cases hp
      simp [Goal, FnEnd, retR, rsrc, RSrc.val, nodupR, nodup, tupPart, h_4, h_8, q_67, q_68, q_69, q_70, q_71, q_72, q_73]
     ·simp only [Sum.elim_inl, Sum.elim_inr] at hX hp
      obtain ⟨σ_75, rfl, q_76, q_77, q_78, q_79, q_80, q_81, q_82, hn_83⟩ := hX
      cases hp
      simp [Goal, FnEnd, retR, rsrc, RSrc.val, nodupR, nodup, tupPart, h_4, h_8, q_76, q_77, q_78, q_79, q_80, q_81, q_82]
   ·try simp at h_8
    cases hp
    simp [Goal, FnEnd, retR, rsrc, RSrc.val, nodupR, nodup, tupPart, h_4, h_8]
  ·try simp at h_4
   cases hp
   simp [Goal, FnEnd, retR, rsrc, RSrc.val, nodupR, nodup, tupPart, h_4]
theorem pc10 : PC Tryz.prog 10 C10 := pc_of (g := g10) (zai [(46, C46), (47, C47), (48, C48), (49, C49), (50, C50)] rfl ⟨pc46, pc47, pc48, pc49, pc50, trivial⟩) ⟨Tryz.f10, Tryz.func10, by kernel_rfl, by kernel_rfl⟩ fun x y h => w10 h

noncomputable def C56 : List AV → Option AV := specP (X := Int × Int × Int × Unit) fun x => impl_within x.1 x.2.1 x.2.2.1
theorem C56_eq {n_ low high} {y} (h : impl_within n_ low high = some y) : C56 [av .shr n_, av .shr low, av .shr high] = some (Res.res y) := zag (X := Int × Int × Int × Unit) (F := fun x => impl_within x.1 x.2.1 x.2.2.1) (x := (n_, low, high, ())) h
noncomputable def g56 : Cfg := { P := Tryz.prog, take := [], keep := [], gho := [], ctx := [] }
@[simp] theorem g56_s : g56.P = Tryz.prog ∧ g56.take = [] ∧ g56.gho = [] ∧ g56.ro = [] ∧ g56.away = [] ∧ g56.give = [] ∧ g56.octx = [] := by rw [g56]; exact ⟨rfl, rfl, rfl, rfl, rfl, rfl, rfl⟩
theorem w56 {n_ low high} {y} (hp : impl_within n_ low high = some y) : ∃ m, callo g56 0 56 [av .shr n_, av .shr low, av .shr high] mem0 = some (Res.res y, m) := by
  refine zah (Tryz.f56.body.getD .skip) [.tmp 6] rfl rfl Tryz.func56 (by kernel_rfl) (by kernel_rfl) (by simp [Tryz.ntmps56]) rfl ?_
  unfold impl_within at hp
  simp [Tryz.f56]
  rcases zad hp with ⟨h_1, hp⟩ | ⟨h_1, hp⟩
  ·try simp at h_1
   cases hp
   simp [Goal, FnEnd, h_1]
  ·try simp at h_1
   cases hp
   simp [Goal, FnEnd, h_1]
theorem pc56 : PC Tryz.prog 56 C56 := pc_of (g := g56) (zai [] rfl trivial) ⟨Tryz.f56, Tryz.func56, by kernel_rfl, by kernel_rfl⟩ fun x y h => w56 h

noncomputable def C132 : List AV → Option AV := specP (X := ByteArray × Unit) fun x => impl_IsName x.1
theorem C132_eq {s} {y} (h : impl_IsName s = some y) : C132 [av .shr s] = some (Res.res y) := zag (X := ByteArray × Unit) (F := fun x => impl_IsName x.1) (x := (s, ())) h
noncomputable def g132 : Cfg := { P := Tryz.prog, take := [], keep := [((132, 2), { hd := [0, 5, 6], bx := [], ex := [0], rt := [2] })], gho := [], ctx := [(56, C56)] }
@[simp] theorem g132_s : g132.P = Tryz.prog ∧ g132.take = [] ∧ g132.gho = [] ∧ g132.ro = [] ∧ g132.away = [] ∧ g132.give = [] ∧ g132.octx = [] ∧ lookN 56 g132.ctx = some C56 := by rw [g132]; exact ⟨rfl, rfl, rfl, rfl, rfl, rfl, rfl, rfl⟩
theorem w132 {s} {y} (hp : impl_IsName s = some y) : ∃ m, callo g132 0 132 [av .shr s] mem0 = some (Res.res y, m) := by
  refine zah (Tryz.f132.body.getD .skip) [.tmp 2] rfl rfl Tryz.func132 (by kernel_rfl) (by kernel_rfl) (by simp [Tryz.ntmps132]) rfl ?_
  unfold impl_IsName at hp
  simp [Tryz.f132]
  obtain ⟨r_17, h_18, hp⟩ := zaa hp
  obtain ⟨I_3, I_3_⟩ : ∃ I : Int → St → Prop, I = (fun (s_1 : Int) (σ : St) => σ.env 0 = .one (.s (.string s)) ∧ σ.env 5 = .one (.s (.int .i64 (s.size : Int))) ∧ σ.env 6 = .one (.s (.int .i64 s_1)) ∧ σ.mem = mem0) := ⟨_, rfl⟩
  obtain ⟨X_4, X_4_⟩ : ∃ X : ((Unit) ⊕ (Unit)) → Out → Prop, X = (fun (r_17 : (Unit) ⊕ (Unit)) (out : Out) => Sum.elim (fun r_17 => ∃ σ : St, out = .ret σ ∧ σ.env 2 = .one (.s (.bool false)) ∧ σ.mem = mem0) (fun r_17 => ∃ σ : St, out = .exit 0 σ ∧ σ.env 0 = .one (.s (.string s)) ∧ σ.mem = mem0) r_17) := ⟨_, rfl⟩
  refine loopP ({ hd := [0, 5, 6], bx := [], ex := [0], rt := [2] }) I_3 X_4 h_18 (by exact rfl) ?_ ?_ ?_
  ·rw [I_3_]
   refine ⟨?_, ?_, ?_, ?_⟩ <;> simp [zab, zac]
  ·intro s_1 σ_5 a_2 hI hp
   rw [I_3_] at hI
   obtain ⟨q_6, q_7, q_8, q_9⟩ := hI
   try simp [q_6, q_7, q_8, q_9]
   rcases zad hp with ⟨h_10, hp⟩ | ⟨h_10, hp⟩
   ·try simp at h_10
    obtain ⟨e_11, h_12, hp⟩ := zaa hp
    have c_13 := idx_str Tryz.underlying9 h_12
    try simp [q_6, q_7, q_8, q_9, h_10, c_13]
    rcases zad hp with ⟨h_14, hp⟩ | ⟨h_14, hp⟩
    ·try simp at h_14
     cases hp
     try simp [q_6, q_7, q_8, q_9, h_10, h_14]
     refine zao ?_
     rw [X_4_]
     refine ⟨_, rfl, ?_, ?_⟩ <;> simp [zab, zac, q_6, q_7, q_8, q_9, h_10, h_14]
    ·try simp at h_14
     obtain ⟨_, h_15, hp⟩ := zaa hp
     cases Option.some.inj (h_12.symm.trans h_15)
     try simp [q_6, q_7, q_8, q_9, h_10, h_14, c_13]
     rcases zad hp with ⟨h_16, hp⟩ | ⟨h_16, hp⟩
     ·try simp at h_16
      cases hp
      try simp [q_6, q_7, q_8, q_9, h_10, h_14, h_16]
      refine zao ?_
      rw [X_4_]
      refine ⟨_, rfl, ?_, ?_⟩ <;> simp [zab, zac, q_6, q_7, q_8, q_9, h_10, h_14, h_16]
     ·try simp at h_16
      cases hp
      try simp [q_6, q_7, q_8, q_9, h_10, h_14, h_16]
      refine zak ?_
      rw [I_3_]
      refine ⟨?_, ?_, ?_, ?_⟩ <;> simp [zab, zac, q_6, q_7, q_8, q_9, h_10, h_14, h_16]
   ·try simp at h_10
    cases hp
    try simp [q_6, q_7, q_8, q_9, h_10]
    refine zan ?_
    rw [X_4_]
    refine ⟨_, rfl, ?_, ?_⟩ <;> simp [zab, zac, q_6, q_7, q_8, q_9, h_10]
  ·intro out hX
   rw [X_4_] at hX
   rcases r_17 with r_17 | r_17
   ·simp only [Sum.elim_inl, Sum.elim_inr] at hX hp
    obtain ⟨σ_19, rfl, q_20, q_21⟩ := hX
    cases hp
    simp [Goal, FnEnd, q_20, q_21]
   ·simp only [Sum.elim_inl, Sum.elim_inr] at hX hp
    obtain ⟨σ_22, rfl, q_23, q_24⟩ := hX
    obtain ⟨y_25, h_26, hp⟩ := zaa hp
    have c_27 := C56_eq h_26
    simp at c_27
    cases hp
    simp [Goal, FnEnd, q_23, q_24, c_27]
theorem pc132 : PC Tryz.prog 132 C132 := pc_of (g := g132) (zai [(56, C56)] rfl ⟨pc56, trivial⟩) ⟨Tryz.f132, Tryz.func132, by kernel_rfl, by kernel_rfl⟩ fun x y h => w132 h

noncomputable def C141 : List AV → Option AV := specP (X := (List ByteArray) × ByteArray × Unit) fun x => slices_Index_string x.1 x.2.1
theorem C141_eq {s v} {y} (h : slices_Index_string s v = some y) : C141 [av .shr s, av .shr v] = some (Res.res y) := zag (X := (List ByteArray) × ByteArray × Unit) (F := fun x => slices_Index_string x.1 x.2.1) (x := (s, v, ())) h
noncomputable def g141 : Cfg := { P := Tryz.prog, take := [], keep := [((141, 2), { hd := [0, 1, 7, 8], bx := [], ex := [], rt := [4] })], gho := [], ctx := [] }
@[simp] theorem g141_s : g141.P = Tryz.prog ∧ g141.take = [] ∧ g141.gho = [] ∧ g141.ro = [] ∧ g141.away = [] ∧ g141.give = [] ∧ g141.octx = [] := by rw [g141]; exact ⟨rfl, rfl, rfl, rfl, rfl, rfl, rfl⟩
theorem w141 {s v} {y} (hp : slices_Index_string s v = some y) : ∃ m, callo g141 0 141 [av .shr s, av .shr v] mem0 = some (Res.res y, m) := by
  refine zah (Tryz.f141.body.getD .skip) [.tmp 4] rfl rfl Tryz.func141 (by kernel_rfl) (by kernel_rfl) (by simp [Tryz.ntmps141]) rfl ?_
  unfold slices_Index_string at hp
  simp [Tryz.f141]
  obtain ⟨r_18, h_19, hp⟩ := zaa hp
  obtain ⟨I_3, I_3_⟩ : ∃ I : Int → St → Prop, I = (fun (s_1 : Int) (σ : St) => σ.env 0 = .one (.l .shr s.length (encL s)) ∧ σ.env 1 = .one (.s (.string v)) ∧ σ.env 7 = .one (.s (.int .i64 (s.length : Int))) ∧ σ.env 8 = .one (.s (.int .i64 s_1)) ∧ σ.mem = mem0) := ⟨_, rfl⟩
  obtain ⟨X_4, X_4_⟩ : ∃ X : ((Int) ⊕ (Unit)) → Out → Prop, X = (fun (r_18 : (Int) ⊕ (Unit)) (out : Out) => Sum.elim (fun r_18 => ∃ σ : St, out = .ret σ ∧ σ.env 4 = .one (.s (.int .i64 r_18)) ∧ σ.mem = mem0) (fun r_18 => ∃ σ : St, out = .exit 0 σ ∧ σ.mem = mem0) r_18) := ⟨_, rfl⟩
  refine loopP ({ hd := [0, 1, 7, 8], bx := [], ex := [], rt := [4] }) I_3 X_4 h_19 (by exact rfl) ?_ ?_ ?_
  ·rw [I_3_]
   refine ⟨?_, ?_, ?_, ?_, ?_⟩ <;> simp [zab, zac]
  ·intro s_1 σ_5 a_2 hI hp
   rw [I_3_] at hI
   obtain ⟨q_6, q_7, q_8, q_9, q_10⟩ := hI
   try simp [q_6, q_7, q_8, q_9, q_10]
   rcases zad hp with ⟨h_11, hp⟩ | ⟨h_11, hp⟩
   ·try simp at h_11
    obtain ⟨e_12, h_13, hp⟩ := zaa hp
    have b_14 := at_lo h_13
    have b_15 := at_hi h_13
    try simp at b_14 b_15
    have c_16 := seg_at' h_13 0 1 (by decide) (ds := [.sc (.string e_12)]) rfl
    try simp at c_16
    try simp [q_6, q_7, q_8, q_9, q_10, h_11, b_14, b_15, c_16]
    rcases zad hp with ⟨h_17, hp⟩ | ⟨h_17, hp⟩
    ·try simp at h_17
     cases hp
     try simp [q_6, q_7, q_8, q_9, q_10, h_11, h_17]
     refine zao ?_
     rw [X_4_]
     refine ⟨_, rfl, ?_, ?_⟩ <;> simp [zab, zac, q_6, q_7, q_8, q_9, q_10, h_11, h_17]
    ·try simp at h_17
     cases hp
     try simp [q_6, q_7, q_8, q_9, q_10, h_11, h_17]
     refine zak ?_
     rw [I_3_]
     refine ⟨?_, ?_, ?_, ?_, ?_⟩ <;> simp [zab, zac, q_6, q_7, q_8, q_9, q_10, h_11, h_17]
   ·try simp at h_11
    cases hp
    try simp [q_6, q_7, q_8, q_9, q_10, h_11]
    refine zan ?_
    rw [X_4_]
    exact ⟨_, rfl, by simp [zac, q_6, q_7, q_8, q_9, q_10, h_11]⟩
  ·intro out hX
   rw [X_4_] at hX
   rcases r_18 with r_18 | r_18
   ·simp only [Sum.elim_inl, Sum.elim_inr] at hX hp
    obtain ⟨σ_20, rfl, q_21, q_22⟩ := hX
    cases hp
    simp [Goal, FnEnd, q_21, q_22]
   ·simp only [Sum.elim_inl, Sum.elim_inr] at hX hp
    obtain ⟨σ_23, rfl, q_24⟩ := hX
    cases hp
    simp [Goal, FnEnd, q_24]
theorem pc141 : PC Tryz.prog 141 C141 := pc_of (g := g141) (zai [] rfl trivial) ⟨Tryz.f141, Tryz.func141, by kernel_rfl, by kernel_rfl⟩ fun x y h => w141 h

noncomputable def C98 : List AV → Option AV := specP (X := (List ByteArray) × ByteArray × Unit) fun x => impl_IndexOf x.1 x.2.1
theorem C98_eq {list s} {y} (h : impl_IndexOf list s = some y) : C98 [av .shr list, av .shr s] = some (Res.res y) := zag (X := (List ByteArray) × ByteArray × Unit) (F := fun x => impl_IndexOf x.1 x.2.1) (x := (list, s, ())) h
noncomputable def g98 : Cfg := { P := Tryz.prog, take := [], keep := [], gho := [], ctx := [(141, C141)] }
@[simp] theorem g98_s : g98.P = Tryz.prog ∧ g98.take = [] ∧ g98.gho = [] ∧ g98.ro = [] ∧ g98.away = [] ∧ g98.give = [] ∧ g98.octx = [] ∧ lookN 141 g98.ctx = some C141 := by rw [g98]; exact ⟨rfl, rfl, rfl, rfl, rfl, rfl, rfl, rfl⟩
theorem w98 {list s} {y} (hp : impl_IndexOf list s = some y) : ∃ m, callo g98 0 98 [av .shr list, av .shr s] mem0 = some (Res.res y, m) := by
  refine zah (Tryz.f98.body.getD .skip) [.tmp 4] rfl rfl Tryz.func98 (by kernel_rfl) (by kernel_rfl) (by simp [Tryz.ntmps98]) rfl ?_
  unfold impl_IndexOf at hp
  obtain ⟨y_1, h_2, hp⟩ := zaa hp
  have c_3 := C141_eq h_2
  simp at c_3
  cases hp
  simp [Tryz.f98, Goal, FnEnd, c_3]
theorem pc98 : PC Tryz.prog 98 C98 := pc_of (g := g98) (zai [(141, C141)] rfl ⟨pc141, trivial⟩) ⟨Tryz.f98, Tryz.func98, by kernel_rfl, by kernel_rfl⟩ fun x y h => w98 h

noncomputable def C90 : List AV → Option AV := specP (X := (List ByteArray) × Unit) fun x => impl_AreVars x.1
theorem C90_eq {list} {y} (h : impl_AreVars list = some y) : C90 [av .shr list] = some (Res.res y) := zag (X := (List ByteArray) × Unit) (F := fun x => impl_AreVars x.1) (x := (list, ())) h
noncomputable def g90 : Cfg := { P := Tryz.prog, take := [], keep := [((90, 2), { hd := [0, 5, 6, 7], bx := [], ex := [0], rt := [2] })], gho := [], ctx := [(56, C56), (98, C98), (132, C132)] }
@[simp] theorem g90_s : g90.P = Tryz.prog ∧ g90.take = [] ∧ g90.gho = [] ∧ g90.ro = [] ∧ g90.away = [] ∧ g90.give = [] ∧ g90.octx = [] ∧ lookN 56 g90.ctx = some C56 ∧ lookN 98 g90.ctx = some C98 ∧ lookN 132 g90.ctx = some C132 := by rw [g90]; exact ⟨rfl, rfl, rfl, rfl, rfl, rfl, rfl, rfl, rfl, rfl⟩
theorem w90 {list} {y} (hp : impl_AreVars list = some y) : ∃ m, callo g90 0 90 [av .shr list] mem0 = some (Res.res y, m) := by
  refine zah (Tryz.f90.body.getD .skip) [.tmp 2] rfl rfl Tryz.func90 (by kernel_rfl) (by kernel_rfl) (by simp [Tryz.ntmps90]) rfl ?_
  unfold impl_AreVars at hp
  simp [Tryz.f90]
  obtain ⟨r_25, h_26, hp⟩ := zaa hp
  obtain ⟨I_3, I_3_⟩ : ∃ I : Int → St → Prop, I = (fun (s_1 : Int) (σ : St) => σ.env 0 = .one (.l .shr list.length (encL list)) ∧ σ.env 5 = .one (.l .shr list.length (encL list)) ∧ σ.env 6 = .one (.s (.int .i64 (list.length : Int))) ∧ σ.env 7 = .one (.s (.int .i64 s_1)) ∧ σ.mem = mem0) := ⟨_, rfl⟩
  obtain ⟨X_4, X_4_⟩ : ∃ X : ((Unit) ⊕ (Unit)) → Out → Prop, X = (fun (r_25 : (Unit) ⊕ (Unit)) (out : Out) => Sum.elim (fun r_25 => ∃ σ : St, out = .ret σ ∧ σ.env 2 = .one (.s (.bool false)) ∧ σ.mem = mem0) (fun r_25 => ∃ σ : St, out = .exit 0 σ ∧ σ.env 0 = .one (.l .shr list.length (encL list)) ∧ σ.mem = mem0) r_25) := ⟨_, rfl⟩
  refine loopP ({ hd := [0, 5, 6, 7], bx := [], ex := [0], rt := [2] }) I_3 X_4 h_26 (by exact rfl) ?_ ?_ ?_
  ·rw [I_3_]
   refine ⟨?_, ?_, ?_, ?_, ?_⟩ <;> simp [zab, zac]
  ·intro s_1 σ_5 a_2 hI hp
   rw [I_3_] at hI
   obtain ⟨q_6, q_7, q_8, q_9, q_10⟩ := hI
   try simp [q_6, q_7, q_8, q_9, q_10]
   rcases zad hp with ⟨h_11, hp⟩ | ⟨h_11, hp⟩
   ·try simp at h_11
    obtain ⟨e_12, h_13, hp⟩ := zaa hp
    have b_14 := at_lo h_13
    have b_15 := at_hi h_13
    try simp at b_14 b_15
    have c_16 := seg_at' h_13 0 1 (by decide) (ds := [.sc (.string e_12)]) rfl
    try simp at c_16
    obtain ⟨y_17, h_18, hp⟩ := zaa hp
    have c_19 := C132_eq h_18
    simp at c_19
    try simp [q_6, q_7, q_8, q_9, q_10, h_11, b_14, b_15, c_16, c_19]
    rcases zad hp with ⟨h_20, hp⟩ | ⟨h_20, hp⟩
    ·try simp at h_20
     obtain ⟨y_21, h_22, hp⟩ := zaa hp
     have c_23 := C98_eq h_22
     simp at c_23
     try simp [q_6, q_7, q_8, q_9, q_10, h_11, h_20, c_23]
     rcases zad hp with ⟨h_24, hp⟩ | ⟨h_24, hp⟩
     ·try simp at h_24
      cases hp
      try simp [q_6, q_7, q_8, q_9, q_10, h_11, h_20, h_24]
      refine zao ?_
      rw [X_4_]
      refine ⟨_, rfl, ?_, ?_⟩ <;> simp [zab, zac, q_6, q_7, q_8, q_9, q_10, h_11, h_20, h_24]
     ·try simp at h_24
      cases hp
      try simp [q_6, q_7, q_8, q_9, q_10, h_11, h_20, h_24]
      refine zak ?_
      rw [I_3_]
      refine ⟨?_, ?_, ?_, ?_, ?_⟩ <;> simp [zab, zac, q_6, q_7, q_8, q_9, q_10, h_11, h_20, h_24]
    ·try simp at h_20
     cases hp
     try simp [q_6, q_7, q_8, q_9, q_10, h_11, h_20]
     refine zao ?_
     rw [X_4_]
     refine ⟨_, rfl, ?_, ?_⟩ <;> simp [zab, zac, q_6, q_7, q_8, q_9, q_10, h_11, h_20]
   ·try simp at h_11
    cases hp
    try simp [q_6, q_7, q_8, q_9, q_10, h_11]
    refine zan ?_
    rw [X_4_]
    refine ⟨_, rfl, ?_, ?_⟩ <;> simp [zab, zac, q_6, q_7, q_8, q_9, q_10, h_11]
  ·intro out hX
   rw [X_4_] at hX
   rcases r_25 with r_25 | r_25
   ·simp only [Sum.elim_inl, Sum.elim_inr] at hX hp
    obtain ⟨σ_27, rfl, q_28, q_29⟩ := hX
    cases hp
    simp [Goal, FnEnd, q_28, q_29]
   ·simp only [Sum.elim_inl, Sum.elim_inr] at hX hp
    obtain ⟨σ_30, rfl, q_31, q_32⟩ := hX
    obtain ⟨y_33, h_34, hp⟩ := zaa hp
    have c_35 := C56_eq h_34
    simp at c_35
    cases hp
    simp [Goal, FnEnd, q_31, q_32, c_35]
theorem pc90 : PC Tryz.prog 90 C90 := pc_of (g := g90) (zai [(56, C56), (98, C98), (132, C132)] rfl ⟨pc56, pc98, pc132, trivial⟩) ⟨Tryz.f90, Tryz.func90, by kernel_rfl, by kernel_rfl⟩ fun x y h => w90 h

noncomputable def C136 : List AV → Option AV := specP (X := (List ByteArray) × ByteArray × Unit) fun x => slices_Contains_string x.1 x.2.1
theorem C136_eq {s v} {y} (h : slices_Contains_string s v = some y) : C136 [av .shr s, av .shr v] = some (Res.res y) := zag (X := (List ByteArray) × ByteArray × Unit) (F := fun x => slices_Contains_string x.1 x.2.1) (x := (s, v, ())) h
noncomputable def g136 : Cfg := { P := Tryz.prog, take := [], keep := [], gho := [], ctx := [(141, C141)] }
@[simp] theorem g136_s : g136.P = Tryz.prog ∧ g136.take = [] ∧ g136.gho = [] ∧ g136.ro = [] ∧ g136.away = [] ∧ g136.give = [] ∧ g136.octx = [] ∧ lookN 141 g136.ctx = some C141 := by rw [g136]; exact ⟨rfl, rfl, rfl, rfl, rfl, rfl, rfl, rfl⟩
theorem w136 {s v} {y} (hp : slices_Contains_string s v = some y) : ∃ m, callo g136 0 136 [av .shr s, av .shr v] mem0 = some (Res.res y, m) := by
  refine zah (Tryz.f136.body.getD .skip) [.tmp 4] rfl rfl Tryz.func136 (by kernel_rfl) (by kernel_rfl) (by simp [Tryz.ntmps136]) rfl ?_
  unfold slices_Contains_string at hp
  obtain ⟨y_1, h_2, hp⟩ := zaa hp
  have c_3 := C141_eq h_2
  simp at c_3
  cases hp
  simp [Tryz.f136, Goal, FnEnd, c_3]
theorem pc136 : PC Tryz.prog 136 C136 := pc_of (g := g136) (zai [(141, C141)] rfl ⟨pc141, trivial⟩) ⟨Tryz.f136, Tryz.func136, by kernel_rfl, by kernel_rfl⟩ fun x y h => w136 h

noncomputable def C153 : List AV → Option AV := specP (X := Int × Unit) fun x => impl_NamesOf x.1
theorem C153_eq {kind} {y} (h : impl_NamesOf kind = some y) : C153 [av .shr kind] = some (Res.res y) := zag (X := Int × Unit) (F := fun x => impl_NamesOf x.1) (x := (kind, ())) h
noncomputable def g153 : Cfg := { P := Tryz.prog, take := [], keep := [], gho := [], ctx := [(56, C56)] }
@[simp] theorem g153_s : g153.P = Tryz.prog ∧ g153.take = [] ∧ g153.gho = [] ∧ g153.ro = [] ∧ g153.away = [] ∧ g153.give = [] ∧ g153.octx = [] ∧ lookN 56 g153.ctx = some C56 := by rw [g153]; exact ⟨rfl, rfl, rfl, rfl, rfl, rfl, rfl, rfl⟩
theorem w153 {kind} {y} (hp : impl_NamesOf kind = some y) : ∃ m, callo g153 0 153 [av .shr kind] mem0 = some (Res.res y, m) := by
  refine zah (Tryz.f153.body.getD .skip) [.tmp 2] rfl rfl Tryz.func153 (by kernel_rfl) (by kernel_rfl) (by simp [Tryz.ntmps153]) rfl ?_
  unfold impl_NamesOf at hp
  obtain ⟨y_1, h_2, hp⟩ := zaa hp
  have c_3 := C56_eq h_2
  simp at c_3
  simp [Tryz.f153, c_3]
  rcases zad hp with ⟨h_4, hp⟩ | ⟨h_4, hp⟩
  ·try simp at h_4
   obtain ⟨e_5, h_6, hp⟩ := zaa hp
   have b_7 := at_lo h_6
   have b_8 := at_hi h_6
   try simp at b_7 b_8
   have c_9 := seg_at' h_6 0 1 (by decide) (ds := [.sc (.int .i64 e_5)]) rfl
   try simp at c_9
   cases hp
   simp [Goal, FnEnd, h_4, b_7, b_8, c_9]
  ·try simp at h_4
   cases hp
   simp [Goal, FnEnd, h_4]
theorem pc153 : PC Tryz.prog 153 C153 := pc_of (g := g153) (zai [(56, C56)] rfl ⟨pc56, trivial⟩) ⟨Tryz.f153, Tryz.func153, by kernel_rfl, by kernel_rfl⟩ fun x y h => w153 h

abbrev G134 (g : Cfg) : Prop := Has Tryz.prog g 134 Tryz.f134 [] [(3, { hd := [1, 5, 15, 16, 17], bx := [], ex := [5], rt := [4] })] [(153, C153)] []
theorem wI134 {g : Cfg} (G : G134 g) {d : Nat} {mem : Mem} (hT : Tight d mem)  {s : TStmt} {accept : (ByteArray → Option (Bool))} {fk_accept : Nat} {caps_accept : List (Key × Nat)} (hl_accept : ∀ c ∈ caps_accept, c.1.1 ≤ d) (hc_accept : Clo g d mem fk_accept caps_accept fun x : ByteArray × Unit => accept x.1) {y} (hp : impl_Stmt_hasNames s accept = some y) : callo g d 134 [av .shr s, .one (.fn fk_accept caps_accept)] mem = some (Res.res y, mem) := by
  have gP := G.P; have gt := G.tk; have gr := G.ro; have gg := G.gh
  have k_3 := G.kp (3, { hd := [1, 5, 15, 16, 17], bx := [], ex := [5], rt := [4] }) (by simp)
  have c_153 := G.cs (153, C153) (by simp)
  have hT2 : memKill (fun k => decide (d < k.1)) mem = mem := hT
  have hm0 : ∀ t, mem (d + 1, t) = none := fun t => hT.none (by simp)
  refine start_in (Tryz.f134.body.getD .skip) [.tmp 4] G Tryz.func134 (by kernel_rfl) (by simp [Tryz.ntmps134]) rfl ?_
  unfold impl_Stmt_hasNames at hp
  obtain ⟨y_1, h_2, hp⟩ := zaa hp
  have c_3 := C153_eq h_2
  simp at c_3
  simp [Tryz.f134, gP, gt, gr, gg, hm0, c_153, c_3]
  obtain ⟨r_32, h_33, hp⟩ := zaa hp
  obtain ⟨I_6, I_6_⟩ : ∃ I : Int → St → Prop, I = (fun (s_4 : Int) (σ : St) => σ.env 1 = .one (.fn fk_accept caps_accept) ∧ σ.env 5 = .one (.s (.int .i64 y_1)) ∧ σ.env 15 = .one (.l .own [s.a, s.b].length (encL [s.a, s.b])) ∧ σ.env 16 = .one (.s (.int .i64 ([s.a, s.b].length : Int))) ∧ σ.env 17 = .one (.s (.int .i64 s_4)) ∧ σ.mem (d + 1, 2) = some [(.s (.int .i64 s.kind)), (.s (.string s.a)), (.s (.string s.b))] ∧ Tight (d + 1) σ.mem ∧ Agree d mem σ.mem ∧ NoBoxD d [(d + 1, 2)] σ.mem) := ⟨_, rfl⟩
  obtain ⟨X_7, X_7_⟩ : ∃ X : ((Unit) ⊕ (Unit)) → Out → Prop, X = (fun (r_32 : (Unit) ⊕ (Unit)) (out : Out) => Sum.elim (fun r_32 => ∃ σ : St, out = .ret σ ∧ σ.env 4 = .one (.s (.bool false)) ∧ σ.mem (d + 1, 2) = some [(.s (.int .i64 s.kind)), (.s (.string s.a)), (.s (.string s.b))] ∧ Tight (d + 1) σ.mem ∧ Agree d mem σ.mem ∧ NoBoxD d [(d + 1, 2)] σ.mem) (fun r_32 => ∃ σ : St, out = .exit 0 σ ∧ σ.env 5 = .one (.s (.int .i64 y_1)) ∧ σ.mem (d + 1, 2) = some [(.s (.int .i64 s.kind)), (.s (.string s.a)), (.s (.string s.b))] ∧ Tight (d + 1) σ.mem ∧ Agree d mem σ.mem ∧ NoBoxD d [(d + 1, 2)] σ.mem) r_32) := ⟨_, rfl⟩
  refine loopP ({ hd := [1, 5, 15, 16, 17], bx := [], ex := [5], rt := [4] }) I_6 X_7 h_33 (by exact k_3) ?_ ?_ ?_
  ·rw [I_6_]
   refine ⟨by simp [zab, gP, gt, gr, gg, hm0, c_153] <;> first | (intro x x1 x2 hx; have h0 := hl_accept _ hx; simp at h0; omega) | (intro x hx; have h0 := hl_accept _ hx; simp at h0; omega), ?_, ?_, ?_, ?_, ?_, (by repeat (first | exact zam _ | exact hT.up | exact hT | refine Tight.restrict ?_ | refine Tight.upd ?_ (by simp) (by simp))), (by repeat (first | exact fun k hk => rfl | refine Agree.restrict hT ?_ | refine Agree.upd ?_ (by simp))), NoBoxD.restrict (by intro k hd hk hb; simp at hk hb; simp [hk, hb, gP, gt, gr, gg, hm0, c_153, hT.none hd])⟩ <;> simp [zab, zac, gP, gt, gr, gg, hm0, c_153]
  ·intro s_4 σ_8 a_5 hI hp
   rw [I_6_] at hI
   obtain ⟨q_9, q_10, q_11, q_12, q_13, q_14, ht_15, ha_16, hn_17⟩ := hI
   try simp [gP, gt, gr, gg, hm0, c_153, q_9, q_10, q_11, q_12, q_13, q_14]
   rcases zad hp with ⟨h_18, hp⟩ | ⟨h_18, hp⟩
   ·try simp at h_18
    obtain ⟨e_19, h_20, hp⟩ := zaa hp
    have b_21 := at_lo h_20
    have b_22 := at_hi h_20
    try simp at b_21 b_22
    have c_23 := seg_at' h_20 0 1 (by decide) (ds := [.sc (.string e_19)]) rfl
    try simp at c_23
    try simp [gP, gt, gr, gg, hm0, c_153, q_9, q_10, q_11, q_12, q_13, q_14, h_18, b_21, b_22, c_23]
    rcases zad hp with ⟨h_24, hp⟩ | ⟨h_24, hp⟩
    ·try simp at h_24
     obtain ⟨y_25, h_26, hp⟩ := zaa hp
     try simp [gP, gt, gr, gg, hm0, c_153, q_9, q_10, q_11, q_12, q_13, q_14, h_18, h_24]
     refine goal_call ([av .shr e_19] ++ capsAV caps_accept) (Res.res y_25) (by simp [capsAV, gP, gt, gr, gg, hm0, c_153, q_9, q_10, q_11, q_12, q_13, q_14, h_18, h_24]) (hc_accept _ _ _ (e_19, ()) _ (Nat.le_succ d) (by repeat (first | exact ha_16 | exact fun k hk => rfl | refine Agree.upd ?_ (by simp))) (by repeat (first | exact ht_15 | exact zam _ | exact hT.up | exact hT | (simp only [q_9, q_10, q_11, q_12, q_13, q_14]; done) | refine Tight.upd ?_ (by simp) (by simp))) ⟨_, _, (.inl rfl), rfl, rfl⟩ h_26) ?_
     try simp [gP, gt, gr, gg, hm0, c_153, q_9, q_10, q_11, q_12, q_13, q_14, h_18, h_24]
     rcases zad hp with ⟨h_27, hp⟩ | ⟨h_27, hp⟩
     ·try simp at h_27
      try simp [gP, gt, gr, gg, hm0, c_153, q_9, q_10, q_11, q_12, q_13, q_14, h_18, h_24, h_27]
      rcases zad hp with ⟨h_28, hp⟩ | ⟨h_28, hp⟩
      ·try simp at h_28
       try simp [gP, gt, gr, gg, hm0, c_153, q_9, q_10, q_11, q_12, q_13, q_14, h_18, h_24, h_27, h_28]
       rcases zad hp with ⟨h_29, hp⟩ | ⟨h_29, hp⟩
       ·try simp at h_29
        cases hp
        try simp [gP, gt, gr, gg, hm0, c_153, q_9, q_10, q_11, q_12, q_13, q_14, h_18, h_24, h_27, h_28, h_29]
        refine zao ?_
        rw [X_7_]
        refine ⟨_, rfl, ?_, ?_, (by repeat (first | exact ht_15 | exact zam _ | exact hT.up | exact hT | refine Tight.restrict ?_ | refine Tight.upd ?_ (by simp) (by simp))), (by repeat (first | exact ha_16 | exact fun k hk => rfl | refine Agree.restrict hT ?_ | refine Agree.upd ?_ (by simp))), NoBoxD.restrict (by intro k hd hk hb; simp at hk hb; simp [hk, hb, gP, gt, gr, gg, hm0, c_153, q_9, q_10, q_11, q_12, q_13, q_14, h_18, h_24, h_27, h_28, h_29, hn_17 k hd (by simp [hk, hb])])⟩ <;> simp [zab, zac, gP, gt, gr, gg, hm0, c_153, q_9, q_10, q_11, q_12, q_13, q_14, h_18, h_24, h_27, h_28, h_29]
       ·try simp at h_29
        cases hp
        try simp [gP, gt, gr, gg, hm0, c_153, q_9, q_10, q_11, q_12, q_13, q_14, h_18, h_24, h_27, h_28, h_29]
        refine zak ?_
        rw [I_6_]
        refine ⟨by simp [zab, gP, gt, gr, gg, hm0, c_153, q_9, q_10, q_11, q_12, q_13, q_14, h_18, h_24, h_27, h_28, h_29] <;> first | (intro x x1 x2 hx; have h0 := hl_accept _ hx; simp at h0; omega) | (intro x hx; have h0 := hl_accept _ hx; simp at h0; omega), ?_, ?_, ?_, ?_, ?_, (by repeat (first | exact ht_15 | exact zam _ | exact hT.up | exact hT | refine Tight.restrict ?_ | refine Tight.upd ?_ (by simp) (by simp))), (by repeat (first | exact ha_16 | exact fun k hk => rfl | refine Agree.restrict hT ?_ | refine Agree.upd ?_ (by simp))), NoBoxD.restrict (by intro k hd hk hb; simp at hk hb; simp [hk, hb, gP, gt, gr, gg, hm0, c_153, q_9, q_10, q_11, q_12, q_13, q_14, h_18, h_24, h_27, h_28, h_29, hn_17 k hd (by simp [hk, hb])])⟩ <;> simp [zab, zac, gP, gt, gr, gg, hm0, c_153, q_9, q_10, q_11, q_12, q_13, q_14, h_18, h_24, h_27, h_28, h_29]
      ·try simp at h_28
       cases hp
       try simp [gP, gt, gr, gg, hm0, c_153, q_9, q_10, q_11, q_12, q_13, q_14, h_18, h_24, h_27, h_28]
       refine zak ?_
       rw [I_6_]
       refine ⟨by simp [zab, gP, gt, gr, gg, hm0, c_153, q_9, q_10, q_11, q_12, q_13, q_14, h_18, h_24, h_27, h_28] <;> first | (intro x x1 x2 hx; have h0 := hl_accept _ hx; simp at h0; omega) | (intro x hx; have h0 := hl_accept _ hx; simp at h0; omega), ?_, ?_, ?_, ?_, ?_, (by repeat (first | exact ht_15 | exact zam _ | exact hT.up | exact hT | refine Tight.restrict ?_ | refine Tight.upd ?_ (by simp) (by simp))), (by repeat (first | exact ha_16 | exact fun k hk => rfl | refine Agree.restrict hT ?_ | refine Agree.upd ?_ (by simp))), NoBoxD.restrict (by intro k hd hk hb; simp at hk hb; simp [hk, hb, gP, gt, gr, gg, hm0, c_153, q_9, q_10, q_11, q_12, q_13, q_14, h_18, h_24, h_27, h_28, hn_17 k hd (by simp [hk, hb])])⟩ <;> simp [zab, zac, gP, gt, gr, gg, hm0, c_153, q_9, q_10, q_11, q_12, q_13, q_14, h_18, h_24, h_27, h_28]
     ·try simp at h_27
      cases hp
      try simp [gP, gt, gr, gg, hm0, c_153, q_9, q_10, q_11, q_12, q_13, q_14, h_18, h_24, h_27]
      refine zao ?_
      rw [X_7_]
      refine ⟨_, rfl, ?_, ?_, (by repeat (first | exact ht_15 | exact zam _ | exact hT.up | exact hT | refine Tight.restrict ?_ | refine Tight.upd ?_ (by simp) (by simp))), (by repeat (first | exact ha_16 | exact fun k hk => rfl | refine Agree.restrict hT ?_ | refine Agree.upd ?_ (by simp))), NoBoxD.restrict (by intro k hd hk hb; simp at hk hb; simp [hk, hb, gP, gt, gr, gg, hm0, c_153, q_9, q_10, q_11, q_12, q_13, q_14, h_18, h_24, h_27, hn_17 k hd (by simp [hk, hb])])⟩ <;> simp [zab, zac, gP, gt, gr, gg, hm0, c_153, q_9, q_10, q_11, q_12, q_13, q_14, h_18, h_24, h_27]
    ·try simp at h_24
     try simp [gP, gt, gr, gg, hm0, c_153, q_9, q_10, q_11, q_12, q_13, q_14, h_18, h_24]
     rcases zad hp with ⟨h_30, hp⟩ | ⟨h_30, hp⟩
     ·try simp at h_30
      try simp [gP, gt, gr, gg, hm0, c_153, q_9, q_10, q_11, q_12, q_13, q_14, h_18, h_24, h_30]
      rcases zad hp with ⟨h_31, hp⟩ | ⟨h_31, hp⟩
      ·try simp at h_31
       cases hp
       try simp [gP, gt, gr, gg, hm0, c_153, q_9, q_10, q_11, q_12, q_13, q_14, h_18, h_24, h_30, h_31]
       refine zao ?_
       rw [X_7_]
       refine ⟨_, rfl, ?_, ?_, (by repeat (first | exact ht_15 | exact zam _ | exact hT.up | exact hT | refine Tight.restrict ?_ | refine Tight.upd ?_ (by simp) (by simp))), (by repeat (first | exact ha_16 | exact fun k hk => rfl | refine Agree.restrict hT ?_ | refine Agree.upd ?_ (by simp))), NoBoxD.restrict (by intro k hd hk hb; simp at hk hb; simp [hk, hb, gP, gt, gr, gg, hm0, c_153, q_9, q_10, q_11, q_12, q_13, q_14, h_18, h_24, h_30, h_31, hn_17 k hd (by simp [hk, hb])])⟩ <;> simp [zab, zac, gP, gt, gr, gg, hm0, c_153, q_9, q_10, q_11, q_12, q_13, q_14, h_18, h_24, h_30, h_31]
      ·try simp at h_31
       cases hp
       try simp [gP, gt, gr, gg, hm0, c_153, q_9, q_10, q_11, q_12, q_13, q_14, h_18, h_24, h_30, h_31]
       refine zak ?_
       rw [I_6_]
       refine ⟨by simp [zab, gP, gt, gr, gg, hm0, c_153, q_9, q_10, q_11, q_12, q_13, q_14, h_18, h_24, h_30, h_31] <;> first | (intro x x1 x2 hx; have h0 := hl_accept _ hx; simp at h0; omega) | (intro x hx; have h0 := hl_accept _ hx; simp at h0; omega), ?_, ?_, ?_, ?_, ?_, (by repeat (first | exact ht_15 | exact zam _ | exact hT.up | exact hT | refine Tight.restrict ?_ | refine Tight.upd ?_ (by simp) (by simp))), (by repeat (first | exact ha_16 | exact fun k hk => rfl | refine Agree.restrict hT ?_ | refine Agree.upd ?_ (by simp))), NoBoxD.restrict (by intro k hd hk hb; simp at hk hb; simp [hk, hb, gP, gt, gr, gg, hm0, c_153, q_9, q_10, q_11, q_12, q_13, q_14, h_18, h_24, h_30, h_31, hn_17 k hd (by simp [hk, hb])])⟩ <;> simp [zab, zac, gP, gt, gr, gg, hm0, c_153, q_9, q_10, q_11, q_12, q_13, q_14, h_18, h_24, h_30, h_31]
     ·try simp at h_30
      cases hp
      try simp [gP, gt, gr, gg, hm0, c_153, q_9, q_10, q_11, q_12, q_13, q_14, h_18, h_24, h_30]
      refine zak ?_
      rw [I_6_]
      refine ⟨by simp [zab, gP, gt, gr, gg, hm0, c_153, q_9, q_10, q_11, q_12, q_13, q_14, h_18, h_24, h_30] <;> first | (intro x x1 x2 hx; have h0 := hl_accept _ hx; simp at h0; omega) | (intro x hx; have h0 := hl_accept _ hx; simp at h0; omega), ?_, ?_, ?_, ?_, ?_, (by repeat (first | exact ht_15 | exact zam _ | exact hT.up | exact hT | refine Tight.restrict ?_ | refine Tight.upd ?_ (by simp) (by simp))), (by repeat (first | exact ha_16 | exact fun k hk => rfl | refine Agree.restrict hT ?_ | refine Agree.upd ?_ (by simp))), NoBoxD.restrict (by intro k hd hk hb; simp at hk hb; simp [hk, hb, gP, gt, gr, gg, hm0, c_153, q_9, q_10, q_11, q_12, q_13, q_14, h_18, h_24, h_30, hn_17 k hd (by simp [hk, hb])])⟩ <;> simp [zab, zac, gP, gt, gr, gg, hm0, c_153, q_9, q_10, q_11, q_12, q_13, q_14, h_18, h_24, h_30]
   ·try simp at h_18
    cases hp
    try simp [gP, gt, gr, gg, hm0, c_153, q_9, q_10, q_11, q_12, q_13, q_14, h_18]
    refine zan ?_
    rw [X_7_]
    refine ⟨_, rfl, ?_, ?_, (by repeat (first | exact ht_15 | exact zam _ | exact hT.up | exact hT | refine Tight.restrict ?_ | refine Tight.upd ?_ (by simp) (by simp))), (by repeat (first | exact ha_16 | exact fun k hk => rfl | refine Agree.restrict hT ?_ | refine Agree.upd ?_ (by simp))), NoBoxD.restrict (by intro k hd hk hb; simp at hk hb; simp [hk, hb, gP, gt, gr, gg, hm0, c_153, q_9, q_10, q_11, q_12, q_13, q_14, h_18, hn_17 k hd (by simp [hk, hb])])⟩ <;> simp [zab, zac, gP, gt, gr, gg, hm0, c_153, q_9, q_10, q_11, q_12, q_13, q_14, h_18]
  ·intro out hX
   rw [X_7_] at hX
   rcases r_32 with r_32 | r_32
   ·simp only [Sum.elim_inl, Sum.elim_inr] at hX hp
    obtain ⟨σ_34, rfl, q_35, q_36, ht_37, ha_38, hn_39⟩ := hX
    cases hp
    simp [Goal, FnEndI, memKill_hi, gP, gt, gr, gg, hm0, c_153, q_35, q_36, kill_back ha_38 hT]
   ·simp only [Sum.elim_inl, Sum.elim_inr] at hX hp
    obtain ⟨σ_40, rfl, q_41, q_42, ht_43, ha_44, hn_45⟩ := hX
    cases hp
    simp [Goal, FnEndI, memKill_hi, gP, gt, gr, gg, hm0, c_153, q_41, q_42, kill_back ha_44 hT]
end Go.Proofs

