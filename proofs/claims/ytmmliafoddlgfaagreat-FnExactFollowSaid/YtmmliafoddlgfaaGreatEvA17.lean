import Derived.Test.YtmmliafoddlgfaaGreatEvA16
set_option linter.unusedSimpArgs false
set_option linter.unusedVariables false
set_option linter.unnecessarySimpa false
set_option maxHeartbeats 4000000
set_option maxRecDepth 100000
namespace Go.Proofs
open Go.Ev
noncomputable def C100 : List AV → Option AV := specP (X := Int × Int × Int × Unit) fun x => impl_needs x.1 x.2.1 x.2.2.1
theorem C100_eq {kind a_ b_} {y} (h : impl_needs kind a_ b_ = some y) : C100 [av .shr kind, av .shr a_, av .shr b_] = some (Res.res y) := zag (X := Int × Int × Int × Unit) (F := fun x => impl_needs x.1 x.2.1 x.2.2.1) (x := (kind, a_, b_, ())) h
noncomputable def g100 : Cfg := { P := Tryz.prog, take := [], keep := [], gho := [], ctx := [] }
@[simp] theorem g100_s : g100.P = Tryz.prog ∧ g100.take = [] ∧ g100.gho = [] ∧ g100.ro = [] ∧ g100.away = [] ∧ g100.give = [] ∧ g100.octx = [] := by rw [g100]; exact ⟨rfl, rfl, rfl, rfl, rfl, rfl, rfl⟩
theorem w100 {kind a_ b_} {y} (hp : impl_needs kind a_ b_ = some y) : ∃ m, callo g100 0 100 [av .shr kind, av .shr a_, av .shr b_] mem0 = some (Res.res y, m) := by
  refine zah (Tryz.f100.body.getD .skip) [.tmp 6, .tmp 7] rfl rfl Tryz.func100 (by kernel_rfl) (by kernel_rfl) (by simp [Tryz.ntmps100]) rfl ?_
  unfold impl_needs at hp
  simp [Tryz.f100]
  rcases zad hp with ⟨h_1, hp⟩ | ⟨h_1, hp⟩
  ·try simp at h_1
   cases hp
   simp [Goal, FnEnd, retR, rsrc, RSrc.val, nodupR, nodup, tupPart, h_1]
  ·try simp at h_1
   try simp [h_1]
   rcases zad hp with ⟨h_2, hp⟩ | ⟨h_2, hp⟩
   ·try simp at h_2
    cases hp
    simp [Goal, FnEnd, retR, rsrc, RSrc.val, nodupR, nodup, tupPart, h_1, h_2]
   ·try simp at h_2
    try simp [h_1, h_2]
    rcases zad hp with ⟨h_3, hp⟩ | ⟨h_3, hp⟩
    ·try simp at h_3
     cases hp
     simp [Goal, FnEnd, retR, rsrc, RSrc.val, nodupR, nodup, tupPart, h_1, h_2, h_3]
    ·try simp at h_3
     try simp [h_1, h_2, h_3]
     rcases zad hp with ⟨h_4, hp⟩ | ⟨h_4, hp⟩
     ·try simp at h_4
      cases hp
      simp [Goal, FnEnd, retR, rsrc, RSrc.val, nodupR, nodup, tupPart, h_1, h_2, h_3, h_4]
     ·try simp at h_4
      cases hp
      simp [Goal, FnEnd, retR, rsrc, RSrc.val, nodupR, nodup, tupPart, h_1, h_2, h_3, h_4]
theorem pc100 : PC Tryz.prog 100 C100 := pc_of (g := g100) (zai [] rfl trivial) ⟨Tryz.f100, Tryz.func100, by kernel_rfl, by kernel_rfl⟩ fun x y h => w100 h

noncomputable def C101 : List AV → Option AV := specP (X := TStmt × Unit) fun x => impl_IsTest x.1
theorem C101_eq {s} {y} (h : impl_IsTest s = some y) : C101 [av .shr s] = some (Res.res y) := zag (X := TStmt × Unit) (F := fun x => impl_IsTest x.1) (x := (s, ())) h
noncomputable def g101 : Cfg := { P := Tryz.prog, take := [], keep := [], gho := [], ctx := [(56, C56)] }
@[simp] theorem g101_s : g101.P = Tryz.prog ∧ g101.take = [] ∧ g101.gho = [] ∧ g101.ro = [] ∧ g101.away = [] ∧ g101.give = [] ∧ g101.octx = [] ∧ lookN 56 g101.ctx = some C56 := by rw [g101]; exact ⟨rfl, rfl, rfl, rfl, rfl, rfl, rfl, rfl⟩
theorem w101 {s} {y} (hp : impl_IsTest s = some y) : ∃ m, callo g101 0 101 [av .shr s] mem0 = some (Res.res y, m) := by
  refine zah (Tryz.f101.body.getD .skip) [.tmp 2] rfl rfl Tryz.func101 (by kernel_rfl) (by kernel_rfl) (by simp [Tryz.ntmps101]) rfl ?_
  unfold impl_IsTest at hp
  obtain ⟨y_1, h_2, hp⟩ := zaa hp
  have c_3 := C56_eq h_2
  simp at c_3
  cases hp
  simp [Tryz.f101, Goal, FnEnd, c_3]
theorem pc101 : PC Tryz.prog 101 C101 := pc_of (g := g101) (zai [(56, C56)] rfl ⟨pc56, trivial⟩) ⟨Tryz.f101, Tryz.func101, by kernel_rfl, by kernel_rfl⟩ fun x y h => w101 h

noncomputable def C102 : List AV → Option AV := specP (X := Int × Int × Int × Unit) fun x => impl_holds x.1 x.2.1 x.2.2.1
theorem C102_eq {kind a_ b_} {y} (h : impl_holds kind a_ b_ = some y) : C102 [av .shr kind, av .shr a_, av .shr b_] = some (Res.res y) := zag (X := Int × Int × Int × Unit) (F := fun x => impl_holds x.1 x.2.1 x.2.2.1) (x := (kind, a_, b_, ())) h
noncomputable def g102 : Cfg := { P := Tryz.prog, take := [], keep := [], gho := [], ctx := [] }
@[simp] theorem g102_s : g102.P = Tryz.prog ∧ g102.take = [] ∧ g102.gho = [] ∧ g102.ro = [] ∧ g102.away = [] ∧ g102.give = [] ∧ g102.octx = [] := by rw [g102]; exact ⟨rfl, rfl, rfl, rfl, rfl, rfl, rfl⟩
theorem w102 {kind a_ b_} {y} (hp : impl_holds kind a_ b_ = some y) : ∃ m, callo g102 0 102 [av .shr kind, av .shr a_, av .shr b_] mem0 = some (Res.res y, m) := by
  refine zah (Tryz.f102.body.getD .skip) [.tmp 6] rfl rfl Tryz.func102 (by kernel_rfl) (by kernel_rfl) (by simp [Tryz.ntmps102]) rfl ?_
  unfold impl_holds at hp
  simp [Tryz.f102]
  rcases zad hp with ⟨h_1, hp⟩ | ⟨h_1, hp⟩
  ·try simp at h_1
   cases hp
   simp [Goal, FnEnd, h_1]
  ·try simp at h_1
   try simp [h_1]
   rcases zad hp with ⟨h_2, hp⟩ | ⟨h_2, hp⟩
   ·try simp at h_2
    cases hp
    simp [Goal, FnEnd, h_1, h_2]
   ·try simp at h_2
    try simp [h_1, h_2]
    rcases zad hp with ⟨h_3, hp⟩ | ⟨h_3, hp⟩
    ·try simp at h_3
     cases hp
     simp [Goal, FnEnd, h_1, h_2, h_3]
    ·try simp at h_3
     cases hp
     simp [Goal, FnEnd, h_1, h_2, h_3]
theorem pc102 : PC Tryz.prog 102 C102 := pc_of (g := g102) (zai [] rfl trivial) ⟨Tryz.f102, Tryz.func102, by kernel_rfl, by kernel_rfl⟩ fun x y h => w102 h

noncomputable def C103 : List AV → Option AV := specP (X := (List Int) × Int × Unit) fun x => impl_Positions x.1 x.2.1
theorem C103_eq {list n_} {y} (h : impl_Positions list n_ = some y) : C103 [av .shr list, av .shr n_] = some (Res.res y) := zag (X := (List Int) × Int × Unit) (F := fun x => impl_Positions x.1 x.2.1) (x := (list, n_, ())) h
noncomputable def g103 : Cfg := { P := Tryz.prog, take := [(103, 19), (103, 24)], keep := [((103, 3), { hd := [1, 5, 9, 10, 11], bx := [], ex := [5], rt := [4] })], gho := [], ctx := [] }
@[simp] theorem g103_s : g103.P = Tryz.prog ∧ g103.take = [(103, 19), (103, 24)] ∧ g103.gho = [] ∧ g103.ro = [] ∧ g103.away = [] ∧ g103.give = [] ∧ g103.octx = [] := by rw [g103]; exact ⟨rfl, rfl, rfl, rfl, rfl, rfl, rfl⟩
theorem w103 {list n_} {y} (hp : impl_Positions list n_ = some y) : ∃ m, callo g103 0 103 [av .shr list, av .shr n_] mem0 = some (Res.res y, m) := by
  refine zah (Tryz.f103.body.getD .skip) [.tmp 4] rfl rfl Tryz.func103 (by kernel_rfl) (by kernel_rfl) (by simp [Tryz.ntmps103]) rfl ?_
  unfold impl_Positions at hp
  simp [Tryz.f103]
  obtain ⟨r_21, h_22, hp⟩ := zaa hp
  obtain ⟨I_3, I_3_⟩ : ∃ I : (List Int) × Int → St → Prop, I = (fun (s_1 : (List Int) × Int) (σ : St) => σ.env 1 = .one (.s (.int .i64 n_)) ∧ σ.env 5 = .one (.l .own s_1.1.length (encL s_1.1)) ∧ σ.env 9 = .one (.l .shr list.length (encL list)) ∧ σ.env 10 = .one (.s (.int .i64 (list.length : Int))) ∧ σ.env 11 = .one (.s (.int .i64 s_1.2)) ∧ σ.mem = mem0) := ⟨_, rfl⟩
  obtain ⟨X_4, X_4_⟩ : ∃ X : (List Int) → Out → Prop, X = (fun (r_21 : (List Int)) (out : Out) => ∃ σ : St, out = .exit 0 σ ∧ σ.env 5 = .one (.l .own r_21.length (encL r_21)) ∧ σ.mem = mem0) := ⟨_, rfl⟩
  refine loopP ({ hd := [1, 5, 9, 10, 11], bx := [], ex := [5], rt := [4] }) I_3 X_4 h_22 (by exact rfl) ?_ ?_ ?_
  ·rw [I_3_]
   refine ⟨?_, ?_, ?_, ?_, ?_, ?_⟩ <;> simp [zab, zac]
  ·intro s_1 σ_5 a_2 hI hp
   rw [I_3_] at hI
   obtain ⟨q_6, q_7, q_8, q_9, q_10, q_11⟩ := hI
   try simp [q_6, q_7, q_8, q_9, q_10, q_11]
   rcases zad hp with ⟨h_12, hp⟩ | ⟨h_12, hp⟩
   ·try simp at h_12
    obtain ⟨e_13, h_14, hp⟩ := zaa hp
    have b_15 := at_lo h_14
    have b_16 := at_hi h_14
    try simp at b_15 b_16
    have c_17 := seg_at' h_14 0 1 (by decide) (ds := [.sc (.int .i64 e_13)]) rfl
    try simp at c_17
    try simp [q_6, q_7, q_8, q_9, q_10, q_11, h_12, b_15, b_16, c_17]
    rcases zad hp with ⟨h_18, hp⟩ | ⟨h_18, hp⟩
    ·try simp at h_18
     obtain ⟨_, h_19, hp⟩ := zaa hp
     have b_20 := room_ok h_19
     try simp at b_20
     cases hp
     try simp [q_6, q_7, q_8, q_9, q_10, q_11, h_12, h_18, b_20]
     refine zak ?_
     rw [I_3_]
     refine ⟨?_, ?_, ?_, ?_, ?_, ?_⟩ <;> simp [zab, zac, q_6, q_7, q_8, q_9, q_10, q_11, h_12, h_18, b_20]
    ·try simp at h_18
     cases hp
     try simp [q_6, q_7, q_8, q_9, q_10, q_11, h_12, h_18]
     refine zak ?_
     rw [I_3_]
     refine ⟨?_, ?_, ?_, ?_, ?_, ?_⟩ <;> simp [zab, zac, q_6, q_7, q_8, q_9, q_10, q_11, h_12, h_18]
   ·try simp at h_12
    cases hp
    try simp [q_6, q_7, q_8, q_9, q_10, q_11, h_12]
    refine zan ?_
    rw [X_4_]
    refine ⟨_, rfl, ?_, ?_⟩ <;> simp [zab, zac, q_6, q_7, q_8, q_9, q_10, q_11, h_12]
  ·intro out hX
   rw [X_4_] at hX
   obtain ⟨σ_23, rfl, q_24, q_25⟩ := hX
   cases hp
   simp [Goal, FnEnd, q_24, q_25]
theorem pc103 : PC Tryz.prog 103 C103 := pc_of (g := g103) (zai [] rfl trivial) ⟨Tryz.f103, Tryz.func103, by kernel_rfl, by kernel_rfl⟩ fun x y h => w103 h

abbrev G106 (g : Cfg) : Prop := Has Tryz.prog g 106 Tryz.f106 [37, 78, 81] [] [(97, C97)] [(4, [.thaw (.at 11 0) 1176 1]), (6, [.thaw (.at 11 0) 1176 1]), (9, [.thaw (.at 11 0) 1176 1]), (11, [.thaw (.at 11 0) 1176 1]), (13, [.thaw (.at 11 1) 1177 1]), (15, [.thaw (.at 11 1) 1177 1]), (17, [.thaw (.at 11 0) 1176 1]), (2000004, [.frz (.at 11 0)]), (2000006, [.frz (.at 11 0)]), (2000009, [.frz (.at 11 0)]), (2000011, [.frz (.at 11 0)]), (2000013, [.frz (.at 11 1)]), (2000015, [.frz (.at 11 1)]), (2000017, [.frz (.at 11 0)])] [80] [(143, some C143)]
theorem wI106 {g : Cfg} (G : G106 g) {d : Nat} {mem : Mem} (hT : Tight d mem) (hB : ∀ x, (mem x).map (List.map C.killB) = mem x)  {h_ : THeap} {s : TStmt} {own : Int} {a_ : Int} {b_ : Int}  {y} (hp : zal h_ s own a_ b_ = some y) : ∃ r, callo g d 106 [av .shr h_, av .shr s, av .shr own, av .shr a_, av .shr b_] mem = some (r, mem) ∧ ∃ me_0 : Md, r = av me_0 y := by
  have gP := G.P; have gt := G.tk; have gr := G.ro; have gg := G.gh
  have o_143 := G.oc (143, some C143) (by simp)
  have c_97 := G.cs (97, C97) (by simp)
  have hT2 : memKill (fun k => decide (d < k.1)) mem = mem := hT
  have hm0 : ∀ t, mem (d + 1, t) = none := fun t => hT.none (by simp)
  refine start_ex (Tryz.f106.body.getD .skip) [.cell 10 31] G Tryz.func106 (by kernel_rfl) (by simp [Tryz.ntmps106]) rfl ?_
  unfold zal at hp
  obtain ⟨y_1, h_2, hp⟩ := zaa hp
  have c_3 := C97_eq h_2
  simp at c_3
  obtain ⟨y_4, h_5, hp⟩ := zaa hp
  have c_6 := C97_eq h_5
  simp at c_6
  simp [Tryz.f106, gP, gt, gr, gg, hm0, c_97, o_143, hB, c_3, c_6]
  rcases zad hp with ⟨h_7, hp⟩ | ⟨h_7, hp⟩
  ·try simp at h_7
   try simp [gP, gt, gr, gg, hm0, c_97, o_143, hB, h_7]
   obtain ⟨e_8, h_9, hp⟩ := zaa hp
   have b_10 := at_lo h_9
   have b_11 := at_hi h_9
   try simp at b_10 b_11
   have c_12 := splice_row h_9 0 (-1) [(.s (.int .i64 (-1)))] (by simp) rfl
   try simp at c_12
   have l_13 := row_room h_9 0 (m := 1) (by decide)
   try simp at l_13
   cases hp
   simp [Goal, FnEndE, memKill_hi, retR, rsrc, RSrc.val, nodupR, nodup, tupPart, gP, gt, gr, gg, hm0, c_97, o_143, hB, h_7, b_10, b_11, c_12, l_13, hT2]
   all_goals (refine ⟨_, ⟨rfl, kill_back ?_ hT⟩, _, rfl⟩; repeat (first | exact fun k hk => rfl | refine Agree.upd ?_ (by simp) | refine Agree.killK hT ?_ (by simp) | refine Agree.killB hB ?_ | refine Agree.mapK hT ?_ (by simp) | refine Agree.ite ?_ (by simp)))
  ·try simp at h_7
   try simp [gP, gt, gr, gg, hm0, c_97, o_143, hB, h_7]
   rcases zad hp with ⟨h_14, hp⟩ | ⟨h_14, hp⟩
   ·try simp at h_14
    try simp [gP, gt, gr, gg, hm0, c_97, o_143, hB, h_7, h_14]
    obtain ⟨e_15, h_16, hp⟩ := zaa hp
    have b_17 := at_lo h_16
    have b_18 := at_hi h_16
    try simp at b_17 b_18
    have c_19 := splice_row h_16 0 (y_4.length : Int) [(.s (.int .i64 (y_4.length : Int)))] (by simp) rfl
    try simp at c_19
    have l_20 := row_room h_16 0 (m := 1) (by decide)
    try simp at l_20
    obtain ⟨_, h_21, hp⟩ := zaa hp
    have b_22 := room_ok h_21
    try simp at b_22
    cases hp
    simp [Goal, FnEndE, memKill_hi, retR, rsrc, RSrc.val, nodupR, nodup, tupPart, gP, gt, gr, gg, hm0, c_97, o_143, hB, h_7, h_14, b_17, b_18, c_19, l_20, b_22, hT2]
    all_goals (refine ⟨_, ⟨rfl, kill_back ?_ hT⟩, _, rfl⟩; repeat (first | exact fun k hk => rfl | refine Agree.upd ?_ (by simp) | refine Agree.killK hT ?_ (by simp) | refine Agree.killB hB ?_ | refine Agree.mapK hT ?_ (by simp) | refine Agree.ite ?_ (by simp)))
   ·try simp at h_14
    try simp [gP, gt, gr, gg, hm0, c_97, o_143, hB, h_7, h_14]
    rcases zad hp with ⟨h_23, hp⟩ | ⟨h_23, hp⟩
    ·try simp at h_23
     try simp [gP, gt, gr, gg, hm0, c_97, o_143, hB, h_7, h_14, h_23]
     obtain ⟨e_24, h_25, hp⟩ := zaa hp
     have b_26 := at_lo h_25
     have b_27 := at_hi h_25
     try simp at b_26 b_27
     have c_28 := splice_row h_25 0 b_ [(.s (.int .i64 b_))] (by simp) rfl
     try simp at c_28
     have l_29 := row_room h_25 0 (m := 1) (by decide)
     try simp at l_29
     cases hp
     simp [Goal, FnEndE, memKill_hi, retR, rsrc, RSrc.val, nodupR, nodup, tupPart, gP, gt, gr, gg, hm0, c_97, o_143, hB, h_7, h_14, h_23, b_26, b_27, c_28, l_29, hT2]
     all_goals (refine ⟨_, ⟨rfl, kill_back ?_ hT⟩, _, rfl⟩; repeat (first | exact fun k hk => rfl | refine Agree.upd ?_ (by simp) | refine Agree.killK hT ?_ (by simp) | refine Agree.killB hB ?_ | refine Agree.mapK hT ?_ (by simp) | refine Agree.ite ?_ (by simp)))
    ·try simp at h_23
     try simp [gP, gt, gr, gg, hm0, c_97, o_143, hB, h_7, h_14, h_23]
     rcases zad hp with ⟨h_30, hp⟩ | ⟨h_30, hp⟩
     ·try simp at h_30
      try simp [gP, gt, gr, gg, hm0, c_97, o_143, hB, h_7, h_14, h_23, h_30]
      obtain ⟨e_31, h_32, hp⟩ := zaa hp
      have b_33 := at_lo h_32
      have b_34 := at_hi h_32
      try simp at b_33 b_34
      have c_35 := seg_at' h_32 0 1 (by decide) (ds := [.sc (.int .i64 e_31)]) rfl
      try simp at c_35
      obtain ⟨e_36, h_37, hp⟩ := zaa hp
      have b_38 := at_lo h_37
      have b_39 := at_hi h_37
      try simp at b_38 b_39
      have c_40 := splice_row h_37 0 e_31 [(.s (.int .i64 e_31))] (by simp) rfl
      try simp at c_40
      have l_41 := row_room h_37 0 (m := 1) (by decide)
      try simp at l_41
      cases hp
      simp [Goal, FnEndE, memKill_hi, retR, rsrc, RSrc.val, nodupR, nodup, tupPart, gP, gt, gr, gg, hm0, c_97, o_143, hB, h_7, h_14, h_23, h_30, b_33, b_34, c_35, b_38, b_39, c_40, l_41, hT2]
      all_goals (refine ⟨_, ⟨rfl, kill_back ?_ hT⟩, _, rfl⟩; repeat (first | exact fun k hk => rfl | refine Agree.upd ?_ (by simp) | refine Agree.killK hT ?_ (by simp) | refine Agree.killB hB ?_ | refine Agree.mapK hT ?_ (by simp) | refine Agree.ite ?_ (by simp)))
     ·try simp at h_30
      try simp [gP, gt, gr, gg, hm0, c_97, o_143, hB, h_7, h_14, h_23, h_30]
      rcases zad hp with ⟨h_42, hp⟩ | ⟨h_42, hp⟩
      ·try simp at h_42
       try simp [gP, gt, gr, gg, hm0, c_97, o_143, hB, h_7, h_14, h_23, h_30, h_42]
       obtain ⟨e_43, h_44, hp⟩ := zaa hp
       have b_45 := at_lo h_44
       have b_46 := at_hi h_44
       try simp at b_45 b_46
       have c_47 := splice_row h_44 0 (-1) [(.s (.int .i64 (-1)))] (by simp) rfl
       try simp at c_47
       have l_48 := row_room h_44 0 (m := 1) (by decide)
       try simp at l_48
       cases hp
       simp [Goal, FnEndE, memKill_hi, retR, rsrc, RSrc.val, nodupR, nodup, tupPart, gP, gt, gr, gg, hm0, c_97, o_143, hB, h_7, h_14, h_23, h_30, h_42, b_45, b_46, c_47, l_48, hT2]
       all_goals (refine ⟨_, ⟨rfl, kill_back ?_ hT⟩, _, rfl⟩; repeat (first | exact fun k hk => rfl | refine Agree.upd ?_ (by simp) | refine Agree.killK hT ?_ (by simp) | refine Agree.killB hB ?_ | refine Agree.mapK hT ?_ (by simp) | refine Agree.ite ?_ (by simp)))
      ·try simp at h_42
       try simp [gP, gt, gr, gg, hm0, c_97, o_143, hB, h_7, h_14, h_23, h_30, h_42]
       rcases zad hp with ⟨h_49, hp⟩ | ⟨h_49, hp⟩
       ·try simp at h_49
        try simp [gP, gt, gr, gg, hm0, c_97, o_143, hB, h_7, h_14, h_23, h_30, h_42, h_49]
        obtain ⟨e_50, h_51, hp⟩ := zaa hp
        have b_52 := at_lo h_51
        have b_53 := at_hi h_51
        try simp at b_52 b_53
        have c_54 := splice_row h_51 0 b_ [(.s (.int .i64 b_))] (by simp) rfl
        try simp at c_54
        have l_55 := row_room h_51 0 (m := 1) (by decide)
        try simp at l_55
        cases hp
        simp [Goal, FnEndE, memKill_hi, retR, rsrc, RSrc.val, nodupR, nodup, tupPart, gP, gt, gr, gg, hm0, c_97, o_143, hB, h_7, h_14, h_23, h_30, h_42, h_49, b_52, b_53, c_54, l_55, hT2]
        all_goals (refine ⟨_, ⟨rfl, kill_back ?_ hT⟩, _, rfl⟩; repeat (first | exact fun k hk => rfl | refine Agree.upd ?_ (by simp) | refine Agree.killK hT ?_ (by simp) | refine Agree.killB hB ?_ | refine Agree.mapK hT ?_ (by simp) | refine Agree.ite ?_ (by simp)))
       ·try simp at h_49
        try simp [gP, gt, gr, gg, hm0, c_97, o_143, hB, h_7, h_14, h_23, h_30, h_42, h_49]
        rcases zad hp with ⟨h_56, hp⟩ | ⟨h_56, hp⟩
        ·try simp at h_56
         try simp [gP, gt, gr, gg, hm0, c_97, o_143, hB, h_7, h_14, h_23, h_30, h_42, h_49, h_56]
         obtain ⟨e_57, h_58, hp⟩ := zaa hp
         have b_59 := at_lo h_58
         have b_60 := at_hi h_58
         try simp at b_59 b_60
         have c_61 := splice_row h_58 0 (-1) [(.s (.int .i64 (-1)))] (by simp) rfl
         try simp at c_61
         have l_62 := row_room h_58 0 (m := 1) (by decide)
         try simp at l_62
         obtain ⟨y_65, h_66, hp⟩ := zaa hp
         have c_67 := C143_eq h_66
         simp at c_67
         cases hp
         simp [Goal, FnEndE, memKill_hi, retR, rsrc, RSrc.val, nodupR, nodup, tupPart, gP, gt, gr, gg, hm0, c_97, o_143, hB, h_7, h_14, h_23, h_30, h_42, h_49, h_56, b_59, b_60, c_61, l_62, c_67, hT2]
         all_goals (refine ⟨_, ⟨rfl, kill_back ?_ hT⟩, _, rfl⟩; repeat (first | exact fun k hk => rfl | refine Agree.upd ?_ (by simp) | refine Agree.killK hT ?_ (by simp) | refine Agree.killB hB ?_ | refine Agree.mapK hT ?_ (by simp) | refine Agree.ite ?_ (by simp)))
        ·try simp at h_56
         cases hp
         simp [Goal, FnEndE, memKill_hi, retR, rsrc, RSrc.val, nodupR, nodup, tupPart, gP, gt, gr, gg, hm0, c_97, o_143, hB, h_7, h_14, h_23, h_30, h_42, h_49, h_56, hT2]
         all_goals (refine ⟨_, ⟨rfl, kill_back ?_ hT⟩, _, rfl⟩; repeat (first | exact fun k hk => rfl | refine Agree.upd ?_ (by simp) | refine Agree.killK hT ?_ (by simp) | refine Agree.killB hB ?_ | refine Agree.mapK hT ?_ (by simp) | refine Agree.ite ?_ (by simp)))

noncomputable def C107 : List AV → Option AV := specP (X := THeap × Unit) fun x => impl_HasLeak x.1
theorem C107_eq {h_} {y} (h : impl_HasLeak h_ = some y) : C107 [av .shr h_] = some (Res.res y) := zag (X := THeap × Unit) (F := fun x => impl_HasLeak x.1) (x := (h_, ())) h
noncomputable def g107 : Cfg := { P := Tryz.prog, take := [], keep := [], gho := [], ctx := [(96, C96)] }
@[simp] theorem g107_s : g107.P = Tryz.prog ∧ g107.take = [] ∧ g107.gho = [] ∧ g107.ro = [] ∧ g107.away = [] ∧ g107.give = [] ∧ g107.octx = [] ∧ lookN 96 g107.ctx = some C96 := by rw [g107]; exact ⟨rfl, rfl, rfl, rfl, rfl, rfl, rfl, rfl⟩
theorem w107 {h_} {y} (hp : impl_HasLeak h_ = some y) : ∃ m, callo g107 0 107 [av .shr h_] mem0 = some (Res.res y, m) := by
  refine zah (Tryz.f107.body.getD .skip) [.tmp 2] rfl rfl Tryz.func107 (by kernel_rfl) (by kernel_rfl) (by simp [Tryz.ntmps107]) rfl ?_
  unfold impl_HasLeak at hp
  obtain ⟨y_1, h_2, hp⟩ := zaa hp
  have c_3 := C96_eq h_2
  simp at c_3
  cases hp
  simp [Tryz.f107, Goal, FnEnd, c_3]
theorem pc107 : PC Tryz.prog 107 C107 := pc_of (g := g107) (zai [(96, C96)] rfl ⟨pc96, trivial⟩) ⟨Tryz.f107, Tryz.func107, by kernel_rfl, by kernel_rfl⟩ fun x y h => w107 h

abbrev G144 (g : Cfg) : Prop := Has Tryz.prog g 144 Tryz.f144 [] [] [(142, C142)] []
theorem wI144 {g : Cfg} (G : G144 g) {d : Nat} {mem : Mem} (hT : Tight d mem) {K_1 : Key} {c : Int} {c0 : (List Int)} {mk_1 : Md} (hk_1 : K_1.1 ≤ d) (hb_1 : mem K_1 = some [(.l mk_1 c0.length (encL c0))]) {y} (hp : impl_CanonHeap_1 c c0 = some y) : callo g d 144 [av .shr c, .one (.ptr K_1 0)] mem = some (Res.res y, mem) := by
  have gP := G.P; have gt := G.tk; have gr := G.ro; have gg := G.gh
  have c_142 := G.cs (142, C142) (by simp)
  have hT2 : memKill (fun k => decide (d < k.1)) mem = mem := hT
  have nk_1 : ∀ t, (K_1 = (d + 1, t)) = False := fun t => by simp; intro h; rw [h] at hk_1; simp at hk_1; omega
  refine start_in (Tryz.f144.body.getD .skip) [.tmp 3] G Tryz.func144 (by kernel_rfl) (by simp [Tryz.ntmps144]) rfl ?_
  unfold impl_CanonHeap_1 at hp
  obtain ⟨y_1, h_2, hp⟩ := zaa hp
  have c_3 := C142_eq h_2
  simp at c_3
  cases hp
  simp [Tryz.f144, Goal, FnEndI, memKill_hi, gP, gt, gr, gg, c_142, hb_1, nk_1, c_3, hT2]

noncomputable def C108 : List AV → Option AV := specP (X := THeap × Unit) fun x => impl_CanonHeap x.1
theorem C108_eq {h_} {y} (h : impl_CanonHeap h_ = some y) : C108 [av .shr h_] = some (Res.res y) := zag (X := THeap × Unit) (F := fun x => impl_CanonHeap x.1) (x := (h_, ())) h
noncomputable def g108 : Cfg := { P := Tryz.prog, take := [(108, 26), (108, 41), (108, 53)], keep := [((108, 7), { hd := [1, 2, 3, 4, 5, 19, 20, 21], bx := [], ex := [1, 2, 3, 4, 5], rt := [2] }), ((108, 12), { hd := [1, 2, 4, 5, 34, 35, 36], bx := [], ex := [2, 5], rt := [2] })], gho := [], ctx := [(94, C94), (96, C96), (142, C142)], ro := [(108, 29), (108, 48)] }
@[simp] theorem g108_s : g108.P = Tryz.prog ∧ g108.take = [(108, 26), (108, 41), (108, 53)] ∧ g108.gho = [] ∧ g108.ro = [(108, 29), (108, 48)] ∧ g108.away = [] ∧ g108.give = [] ∧ g108.octx = [] ∧ lookN 94 g108.ctx = some C94 ∧ lookN 96 g108.ctx = some C96 ∧ lookN 142 g108.ctx = some C142 ∧ lookN 144 g108.ctx = none := by rw [g108]; exact ⟨rfl, rfl, rfl, rfl, rfl, rfl, rfl, rfl, rfl, rfl, rfl⟩
theorem w108 {h_} {y} (hp : impl_CanonHeap h_ = some y) : ∃ m, callo g108 0 108 [av .shr h_] mem0 = some (Res.res y, m) := by
  have G_144 : G144 g108 := ⟨rfl, by kernel_rfl, rfl, fun t => by simp, noAway (fun t => by simp) (by simp) (fun t => by simp), by simp [lookN], fun i => by simp [lookK], by simp [g108, lookK], by simp⟩
  refine zah (Tryz.f108.body.getD .skip) [.cell 2 31] rfl rfl Tryz.func108 (by kernel_rfl) (by kernel_rfl) (by simp [Tryz.ntmps108]) rfl ?_
  unfold impl_CanonHeap at hp
  obtain ⟨y_1, h_2, hp⟩ := zaa hp
  have c_3 := C94_eq h_2
  simp at c_3
  simp [Tryz.f108, c_3]
  rcases zad hp with ⟨h_4, hp⟩ | ⟨h_4, hp⟩
  ·try simp at h_4
   obtain ⟨y_5, h_6, hp⟩ := zaa hp
   have c_7 := C96_eq h_6
   simp at c_7
   try simp [h_4, c_7]
   obtain ⟨r_37, h_38, hp⟩ := zaa hp
   obtain ⟨I_10, I_10_⟩ : ∃ I : Int × (List Int) → St → Prop, I = (fun (s_8 : Int × (List Int)) (σ : St) => σ.env 1 = .one (.ptr (1, 1) 0) ∧ σ.env 2 = .one (.ptr (1, 2) 0) ∧ σ.env 3 = .one (.ptr (1, 3) 0) ∧ σ.env 4 = .one (.fn 144 [((1, 3), 0)]) ∧ σ.env 5 = .one (.ptr (1, 5) 0) ∧ σ.env 19 = .one (.l .shr h_.vars.length (encL h_.vars)) ∧ σ.env 20 = .one (.s (.int .i64 (h_.vars.length : Int))) ∧ σ.env 21 = .one (.s (.int .i64 s_8.1)) ∧ σ.mem (1, 1) = some [(.l .shr h_.vars.length (encL h_.vars)), (.l .shr h_.next.length (encL h_.next))] ∧ σ.mem (1, 2) = some [(.l .own 0 []), (.l .own 0 [])] ∧ σ.mem (1, 3) = some [(.l .own y_5.length (encL y_5))] ∧ σ.mem (1, 5) = some [(.l .own s_8.2.length (encL s_8.2)), (.l .own 0 [])] ∧ Tight (1) σ.mem ∧ NoBox [(1, 1), (1, 2), (1, 3), (1, 5)] σ.mem) := ⟨_, rfl⟩
   obtain ⟨X_11, X_11_⟩ : ∃ X : (List Int) → Out → Prop, X = (fun (r_37 : (List Int)) (out : Out) => ∃ σ : St, out = .exit 0 σ ∧ σ.env 1 = .one (.ptr (1, 1) 0) ∧ σ.env 2 = .one (.ptr (1, 2) 0) ∧ σ.env 3 = .one (.ptr (1, 3) 0) ∧ σ.env 4 = .one (.fn 144 [((1, 3), 0)]) ∧ σ.env 5 = .one (.ptr (1, 5) 0) ∧ σ.mem (1, 1) = some [(.l .shr h_.vars.length (encL h_.vars)), (.l .shr h_.next.length (encL h_.next))] ∧ σ.mem (1, 2) = some [(.l .own 0 []), (.l .own 0 [])] ∧ σ.mem (1, 3) = some [(.l .own y_5.length (encL y_5))] ∧ σ.mem (1, 5) = some [(.l .own r_37.length (encL r_37)), (.l .own 0 [])] ∧ Tight (1) σ.mem ∧ NoBox [(1, 1), (1, 2), (1, 3), (1, 5)] σ.mem) := ⟨_, rfl⟩
   refine loopP ({ hd := [1, 2, 3, 4, 5, 19, 20, 21], bx := [], ex := [1, 2, 3, 4, 5], rt := [2] }) I_10 X_11 h_38 (by exact rfl) ?_ ?_ ?_
   ·rw [I_10_]
    refine ⟨?_, ?_, ?_, ?_, ?_, ?_, ?_, ?_, ?_, ?_, ?_, ?_, (by repeat (first | exact zam _ | exact hT.up | exact hT | refine Tight.restrict ?_ | refine Tight.upd ?_ (by simp) (by simp))), NoBox.restrict (by intro k hk hb; simp at hk hb; simp [hk, hb, h_4])⟩ <;> simp [zab, zac, h_4]
   ·intro s_8 σ_12 a_9 hI hp
    rw [I_10_] at hI
    obtain ⟨q_13, q_14, q_15, q_16, q_17, q_18, q_19, q_20, q_21, q_22, q_23, q_24, ht_25, hn_26⟩ := hI
    try simp [h_4, q_13, q_14, q_15, q_16, q_17, q_18, q_19, q_20, q_21, q_22, q_23, q_24]
    rcases zad hp with ⟨h_27, hp⟩ | ⟨h_27, hp⟩
    ·try simp at h_27
     obtain ⟨e_28, h_29, hp⟩ := zaa hp
     have b_30 := at_lo h_29
     have b_31 := at_hi h_29
     try simp at b_30 b_31
     have c_32 := seg_at' h_29 0 1 (by decide) (ds := [.sc (.int .i64 e_28)]) rfl
     try simp at c_32
     obtain ⟨y_33, h_34, hp⟩ := zaa hp
     try simp [h_4, q_13, q_14, q_15, q_16, q_17, q_18, q_19, q_20, q_21, q_22, q_23, q_24, h_27, b_30, b_31, c_32]
     refine goal_callRo [av .shr e_28, .one (.ptr (1, 3) 0)] (Res.res y_33) (by kernel_rfl) (by simp [h_4, q_13, q_14, q_15, q_16, q_17, q_18, q_19, q_20, q_21, q_22, q_23, q_24, h_27]) (wI144 (mk_1 := .own) G_144 (by repeat (first | exact ht_25 | exact zam _ | exact hT.up | exact hT | (simp only [q_13, q_14, q_15, q_16, q_17, q_18, q_19, q_20, q_21, q_22, q_23, q_24]; done) | refine Tight.upd ?_ (by simp) (by simp))) (by simp) (by simp [h_4, q_13, q_14, q_15, q_16, q_17, q_18, q_19, q_20, q_21, q_22, q_23, q_24, h_27]) h_34) ?_
     obtain ⟨_, h_35, hp⟩ := zaa hp
     have b_36 := room_ok h_35
     try simp at b_36
     cases hp
     try simp [h_4, q_13, q_14, q_15, q_16, q_17, q_18, q_19, q_20, q_21, q_22, q_23, q_24, h_27, b_36]
     refine zak ?_
     rw [I_10_]
     refine ⟨?_, ?_, ?_, ?_, ?_, ?_, ?_, ?_, ?_, ?_, ?_, ?_, (by repeat (first | exact ht_25 | exact zam _ | exact hT.up | exact hT | refine Tight.restrict ?_ | refine Tight.upd ?_ (by simp) (by simp))), NoBox.restrict (by intro k hk hb; simp at hk hb; simp [hk, hb, h_4, q_13, q_14, q_15, q_16, q_17, q_18, q_19, q_20, q_21, q_22, q_23, q_24, h_27, b_36, hn_26 k (by simp [hk, hb])])⟩ <;> simp [zab, zac, h_4, q_13, q_14, q_15, q_16, q_17, q_18, q_19, q_20, q_21, q_22, q_23, q_24, h_27, b_36]
    ·try simp at h_27
     cases hp
     try simp [h_4, q_13, q_14, q_15, q_16, q_17, q_18, q_19, q_20, q_21, q_22, q_23, q_24, h_27]
     refine zan ?_
     rw [X_11_]
     refine ⟨_, rfl, ?_, ?_, ?_, ?_, ?_, ?_, ?_, ?_, ?_, (by repeat (first | exact ht_25 | exact zam _ | exact hT.up | exact hT | refine Tight.restrict ?_ | refine Tight.upd ?_ (by simp) (by simp))), NoBox.restrict (by intro k hk hb; simp at hk hb; simp [hk, hb, h_4, q_13, q_14, q_15, q_16, q_17, q_18, q_19, q_20, q_21, q_22, q_23, q_24, h_27, hn_26 k (by simp [hk, hb])])⟩ <;> simp [zab, zac, h_4, q_13, q_14, q_15, q_16, q_17, q_18, q_19, q_20, q_21, q_22, q_23, q_24, h_27]
   ·intro out hX
    rw [X_11_] at hX
    obtain ⟨σ_39, rfl, q_40, q_41, q_42, q_43, q_44, q_45, q_46, q_47, q_48, ht_49, hn_50⟩ := hX
    try simp [h_4, q_40, q_41, q_42, q_43, q_44, q_45, q_46, q_47, q_48]
    obtain ⟨r_84, h_85, hp⟩ := zaa hp
    obtain ⟨I_53, I_53_⟩ : ∃ I : Int × (List Int) → St → Prop, I = (fun (s_51 : Int × (List Int)) (σ : St) => σ.env 1 = .one (.ptr (1, 1) 0) ∧ σ.env 2 = .one (.ptr (1, 2) 0) ∧ σ.env 4 = .one (.fn 144 [((1, 3), 0)]) ∧ σ.env 5 = .one (.ptr (1, 5) 0) ∧ σ.env 34 = .one (.l .bor y_5.length (encL y_5)) ∧ σ.env 35 = .one (.s (.int .i64 (y_5.length : Int))) ∧ σ.env 36 = .one (.s (.int .i64 s_51.1)) ∧ σ.mem (1, 1) = some [(.l .shr h_.vars.length (encL h_.vars)), (.l .shr h_.next.length (encL h_.next))] ∧ σ.mem (1, 2) = some [(.l .own 0 []), (.l .own 0 [])] ∧ σ.mem (1, 3) = some [(.l .own y_5.length (encL y_5))] ∧ σ.mem (1, 5) = some [(.l .own r_37.length (encL r_37)), (.l .own s_51.2.length (encL s_51.2))] ∧ Tight (1) σ.mem ∧ NoBox [(1, 1), (1, 2), (1, 3), (1, 5)] σ.mem) := ⟨_, rfl⟩
    obtain ⟨X_54, X_54_⟩ : ∃ X : (List Int) → Out → Prop, X = (fun (r_84 : (List Int)) (out : Out) => ∃ σ : St, out = .exit 2 σ ∧ σ.env 2 = .one (.ptr (1, 2) 0) ∧ σ.env 5 = .one (.ptr (1, 5) 0) ∧ σ.mem (1, 1) = some [(.l .shr h_.vars.length (encL h_.vars)), (.l .shr h_.next.length (encL h_.next))] ∧ σ.mem (1, 2) = some [(.l .own 0 []), (.l .own 0 [])] ∧ σ.mem (1, 3) = some [(.l .own y_5.length (encL y_5))] ∧ σ.mem (1, 5) = some [(.l .own r_37.length (encL r_37)), (.l .own r_84.length (encL r_84))] ∧ Tight (1) σ.mem ∧ NoBox [(1, 1), (1, 2), (1, 3), (1, 5)] σ.mem) := ⟨_, rfl⟩
    refine loopP ({ hd := [1, 2, 4, 5, 34, 35, 36], bx := [], ex := [2, 5], rt := [2] }) I_53 X_54 h_85 (by exact rfl) ?_ ?_ ?_
    ·rw [I_53_]
     refine ⟨?_, ?_, ?_, ?_, ?_, ?_, ?_, ?_, ?_, ?_, ?_, (by repeat (first | exact ht_49 | exact zam _ | exact hT.up | exact hT | refine Tight.restrict ?_ | refine Tight.upd ?_ (by simp) (by simp))), NoBox.restrict (by intro k hk hb; simp at hk hb; simp [hk, hb, h_4, q_40, q_41, q_42, q_43, q_44, q_45, q_46, q_47, q_48, hn_50 k (by simp [hk, hb])])⟩ <;> simp [zab, zac, h_4, q_40, q_41, q_42, q_43, q_44, q_45, q_46, q_47, q_48]
    ·intro s_51 σ_55 a_52 hI hp
     rw [I_53_] at hI
     obtain ⟨q_56, q_57, q_58, q_59, q_60, q_61, q_62, q_63, q_64, q_65, q_66, ht_67, hn_68⟩ := hI
     try simp [h_4, q_56, q_57, q_58, q_59, q_60, q_61, q_62, q_63, q_64, q_65, q_66]
     rcases zad hp with ⟨h_69, hp⟩ | ⟨h_69, hp⟩
     ·try simp at h_69
      obtain ⟨e_70, h_71, hp⟩ := zaa hp
      have b_72 := at_lo h_71
      have b_73 := at_hi h_71
      try simp at b_72 b_73
      have c_74 := seg_at' h_71 0 1 (by decide) (ds := [.sc (.int .i64 e_70)]) rfl
      try simp at c_74
      obtain ⟨e_75, h_76, hp⟩ := zaa hp
      have b_77 := at_lo h_76
      have b_78 := at_hi h_76
      try simp at b_77 b_78
      have c_79 := seg_at' h_76 0 1 (by decide) (ds := [.sc (.int .i64 e_75)]) rfl
      try simp at c_79
      obtain ⟨y_80, h_81, hp⟩ := zaa hp
      try simp [h_4, q_56, q_57, q_58, q_59, q_60, q_61, q_62, q_63, q_64, q_65, q_66, h_69, b_72, b_73, c_74, b_77, b_78, c_79]
      refine goal_callRo [av .shr e_75, .one (.ptr (1, 3) 0)] (Res.res y_80) (by kernel_rfl) (by simp [h_4, q_56, q_57, q_58, q_59, q_60, q_61, q_62, q_63, q_64, q_65, q_66, h_69]) (wI144 (mk_1 := .own) G_144 (by repeat (first | exact ht_67 | exact zam _ | exact hT.up | exact hT | (simp only [q_56, q_57, q_58, q_59, q_60, q_61, q_62, q_63, q_64, q_65, q_66]; done) | refine Tight.upd ?_ (by simp) (by simp))) (by simp) (by simp [h_4, q_56, q_57, q_58, q_59, q_60, q_61, q_62, q_63, q_64, q_65, q_66, h_69]) h_81) ?_
      obtain ⟨_, h_82, hp⟩ := zaa hp
      have b_83 := room_ok h_82
      try simp at b_83
      cases hp
      try simp [h_4, q_56, q_57, q_58, q_59, q_60, q_61, q_62, q_63, q_64, q_65, q_66, h_69, b_83]
      refine zak ?_
      rw [I_53_]
      refine ⟨?_, ?_, ?_, ?_, ?_, ?_, ?_, ?_, ?_, ?_, ?_, (by repeat (first | exact ht_67 | exact zam _ | exact hT.up | exact hT | refine Tight.restrict ?_ | refine Tight.upd ?_ (by simp) (by simp))), NoBox.restrict (by intro k hk hb; simp at hk hb; simp [hk, hb, h_4, q_56, q_57, q_58, q_59, q_60, q_61, q_62, q_63, q_64, q_65, q_66, h_69, b_83, hn_68 k (by simp [hk, hb])])⟩ <;> simp [zab, zac, h_4, q_56, q_57, q_58, q_59, q_60, q_61, q_62, q_63, q_64, q_65, q_66, h_69, b_83]
     ·try simp at h_69
      cases hp
      try simp [h_4, q_56, q_57, q_58, q_59, q_60, q_61, q_62, q_63, q_64, q_65, q_66, h_69]
      refine zan ?_
      rw [X_54_]
      refine ⟨_, rfl, ?_, ?_, ?_, ?_, ?_, ?_, (by repeat (first | exact ht_67 | exact zam _ | exact hT.up | exact hT | refine Tight.restrict ?_ | refine Tight.upd ?_ (by simp) (by simp))), NoBox.restrict (by intro k hk hb; simp at hk hb; simp [hk, hb, h_4, q_56, q_57, q_58, q_59, q_60, q_61, q_62, q_63, q_64, q_65, q_66, h_69, hn_68 k (by simp [hk, hb])])⟩ <;> simp [zab, zac, h_4, q_56, q_57, q_58, q_59, q_60, q_61, q_62, q_63, q_64, q_65, q_66, h_69]
    ·intro out hX
     rw [X_54_] at hX
     obtain ⟨σ_86, rfl, q_87, q_88, q_89, q_90, q_91, q_92, ht_93, hn_94⟩ := hX
     cases hp
     simp [Goal, FnEnd, retR, rsrc, RSrc.val, nodupR, nodup, tupPart, h_4, q_87, q_88, q_89, q_90, q_91, q_92]
  ·try simp at h_4
   cases hp
   simp [Goal, FnEnd, retR, rsrc, RSrc.val, nodupR, nodup, tupPart, h_4]
theorem pc108 : PC Tryz.prog 108 C108 := pc_of (g := g108) (zai [(94, C94), (96, C96), (142, C142)] rfl ⟨pc94, pc96, pc142, trivial⟩) ⟨Tryz.f108, Tryz.func108, by kernel_rfl, by kernel_rfl⟩ fun x y h => w108 h

noncomputable def C57 : List AV → Option AV := specP (X := (List ByteArray) × TStmt × THeap × Unit) fun x => impl_Exec x.1 x.2.1 x.2.2.1
theorem C57_eq {vars s h_} {y} (h : impl_Exec vars s h_ = some y) : C57 [av .shr vars, av .shr s, av .shr h_] = some (Res.res y) := zag (X := (List ByteArray) × TStmt × THeap × Unit) (F := fun x => impl_Exec x.1 x.2.1 x.2.2.1) (x := (vars, s, h_, ())) h
noncomputable def g57 : Cfg := { P := Tryz.prog, take := [(57, 40), (106, 37), (106, 78), (106, 81)], keep := [], gho := [((106, 4), [.thaw (.at 11 0) 1176 1]), ((106, 6), [.thaw (.at 11 0) 1176 1]), ((106, 9), [.thaw (.at 11 0) 1176 1]), ((106, 11), [.thaw (.at 11 0) 1176 1]), ((106, 13), [.thaw (.at 11 1) 1177 1]), ((106, 15), [.thaw (.at 11 1) 1177 1]), ((106, 17), [.thaw (.at 11 0) 1176 1]), ((106, 2000004), [.frz (.at 11 0)]), ((106, 2000006), [.frz (.at 11 0)]), ((106, 2000009), [.frz (.at 11 0)]), ((106, 2000011), [.frz (.at 11 0)]), ((106, 2000013), [.frz (.at 11 1)]), ((106, 2000015), [.frz (.at 11 1)]), ((106, 2000017), [.frz (.at 11 0)])], ctx := [(54, C54), (93, C93), (97, C97), (98, C98), (99, C99), (100, C100), (101, C101), (102, C102), (103, C103), (104, C104), (105, C105), (107, C107), (108, C108)], give := [(106, 80)], octx := [(143, C143)] }
@[simp] theorem g57_s : g57.P = Tryz.prog ∧ g57.take = [(57, 40), (106, 37), (106, 78), (106, 81)] ∧ g57.gho = [((106, 4), [.thaw (.at 11 0) 1176 1]), ((106, 6), [.thaw (.at 11 0) 1176 1]), ((106, 9), [.thaw (.at 11 0) 1176 1]), ((106, 11), [.thaw (.at 11 0) 1176 1]), ((106, 13), [.thaw (.at 11 1) 1177 1]), ((106, 15), [.thaw (.at 11 1) 1177 1]), ((106, 17), [.thaw (.at 11 0) 1176 1]), ((106, 2000004), [.frz (.at 11 0)]), ((106, 2000006), [.frz (.at 11 0)]), ((106, 2000009), [.frz (.at 11 0)]), ((106, 2000011), [.frz (.at 11 0)]), ((106, 2000013), [.frz (.at 11 1)]), ((106, 2000015), [.frz (.at 11 1)]), ((106, 2000017), [.frz (.at 11 0)])] ∧ g57.ro = [] ∧ g57.away = [] ∧ g57.give = [(106, 80)] ∧ g57.octx = [(143, C143)] ∧ lookN 54 g57.ctx = some C54 ∧ lookN 93 g57.ctx = some C93 ∧ lookN 97 g57.ctx = some C97 ∧ lookN 98 g57.ctx = some C98 ∧ lookN 99 g57.ctx = some C99 ∧ lookN 100 g57.ctx = some C100 ∧ lookN 101 g57.ctx = some C101 ∧ lookN 102 g57.ctx = some C102 ∧ lookN 103 g57.ctx = some C103 ∧ lookN 104 g57.ctx = some C104 ∧ lookN 105 g57.ctx = some C105 ∧ lookN 107 g57.ctx = some C107 ∧ lookN 108 g57.ctx = some C108 ∧ lookN 106 g57.ctx = none := by rw [g57]; exact ⟨rfl, rfl, rfl, rfl, rfl, rfl, rfl, rfl, rfl, rfl, rfl, rfl, rfl, rfl, rfl, rfl, rfl, rfl, rfl, rfl, rfl⟩
theorem kj57 {g : Cfg} {d f : Nat} (id : Nat) (ops : Array Oper) (draw : Bool) (K : List It) (σ : St) (h : [1, 5, 7, 9, 11, 13].contains id = false) : evk g d f (.region id ops draw) K σ = ghoK g d f ((lookK (f, id) g.gho).getD []) ops (behK ((lookK (f, behind id) g.gho).getD []) K) σ := k_regionS id ops draw K σ h
theorem w57 {vars s h_} {y} (hp : impl_Exec vars s h_ = some y) : ∃ m, callo g57 0 57 [av .shr vars, av .shr s, av .shr h_] mem0 = some (Res.res y, m) := by
  have G_106 : G106 g57 := ⟨rfl, by kernel_rfl, rfl, fun t => by simp, noAway (fun t => by simp) (by simp) (fun t => by simp), by simp [lookN], fun i => by simp [lookK], by simp [g57, lookK], by simp⟩
  refine zah (Tryz.f57.body.getD .skip) [.cell 6 31, .tmp 7] rfl rfl Tryz.func57 (by kernel_rfl) (by kernel_rfl) (by simp [Tryz.ntmps57]) rfl ?_
  unfold impl_Exec at hp
  simp [Tryz.f57, -zae, kj57]
  obtain ⟨r_1, h_2, hp⟩ := zaa hp
  refine joinP (J := fun (σ : St) => σ.env 0 = .one (.l .shr vars.length (encL vars)) ∧ σ.env 4 = .one (.ptr (1, 4) 0) ∧ σ.env 5 = .one (.ptr (1, 5) 0) ∧ σ.env 6 = .one (.ptr (1, 6) 0) ∧ σ.env 24 = .one (.s (.bool r_1)) ∧ σ.mem (1, 4) = some [(.s (.int .i64 s.kind)), (.s (.string s.a)), (.s (.string s.b))] ∧ σ.mem (1, 5) = some [(.l .shr h_.vars.length (encL h_.vars)), (.l .shr h_.next.length (encL h_.next))] ∧ σ.mem (1, 6) = some [(.l .own 0 []), (.l .own 0 [])] ∧ Tight (1) σ.mem ∧ NoBox [(1, 4), (1, 5), (1, 6)] σ.mem) ?_ ?_
  ·replace hp := h_2
   rw [zae]
   obtain ⟨y_14, h_15, hp⟩ := zaa hp
   have c_16 := C93_eq h_15
   simp at c_16
   try simp [-zae, kj57, c_16]
   rcases zad hp with ⟨h_17, hp⟩ | ⟨h_17, hp⟩
   ·try simp at h_17
    obtain ⟨y_18, h_19, hp⟩ := zaa hp
    have c_20 := C54_eq h_19
    simp at c_20
    cases hp
    try simp [-zae, kj57, h_17, c_20]
    refine goal_join ?_
    refine ⟨?_, ?_, ?_, ?_, ?_, ?_, ?_, ?_, (by repeat (first | exact zam _ | exact hT.up | exact hT | (simp only [true_and]; done) | refine Tight.upd ?_ (by simp) (by simp))), (by intro k hk; simp at hk; simp [hk, -zae, kj57, h_17, c_20])⟩ <;> simp [zab, zac, -zae, kj57, h_17, c_20]
   ·try simp at h_17
    cases hp
    try simp [-zae, kj57, h_17]
    refine goal_join ?_
    refine ⟨?_, ?_, ?_, ?_, ?_, ?_, ?_, ?_, (by repeat (first | exact zam _ | exact hT.up | exact hT | (simp only [true_and]; done) | refine Tight.upd ?_ (by simp) (by simp))), (by intro k hk; simp at hk; simp [hk, -zae, kj57, h_17])⟩ <;> simp [zab, zac, -zae, kj57, h_17]
  ·intro σ_3 hJ
   obtain ⟨q_4, q_5, q_6, q_7, q_8, q_9, q_10, q_11, ht_12, hn_13⟩ := hJ
   try simp [-zae, kj57, q_4, q_5, q_6, q_7, q_8, q_9, q_10, q_11]
   rcases zad hp with ⟨h_21, hp⟩ | ⟨h_21, hp⟩
   ·try simp at h_21
    cases hp
    simp [Goal, FnEnd, retR, rsrc, RSrc.val, nodupR, nodup, tupPart, -zae, kj57, q_4, q_5, q_6, q_7, q_8, q_9, q_10, q_11, h_21]
   ·try simp at h_21
    obtain ⟨y_22, h_23, hp⟩ := zaa hp
    have c_24 := C98_eq h_23
    simp at c_24
    obtain ⟨y_25, h_26, hp⟩ := zaa hp
    have c_27 := C99_eq h_26
    simp at c_27
    obtain ⟨y_28, h_29, hp⟩ := zaa hp
    have c_30 := C99_eq h_29
    simp at c_30
    obtain ⟨y_31, h_32, hp⟩ := zaa hp
    have c_33 := C100_eq h_32
    simp at c_33
    try simp [-zae, kj57, q_4, q_5, q_6, q_7, q_8, q_9, q_10, q_11, h_21, c_24, c_27, c_30, c_33]
    obtain ⟨r_34, h_35, hp⟩ := zaa hp
    refine joinP (J := fun (σ : St) => σ.env 4 = .one (.ptr (1, 4) 0) ∧ σ.env 5 = .one (.ptr (1, 5) 0) ∧ σ.env 6 = .one (.ptr (1, 6) 0) ∧ σ.env 8 = .one (.s (.int .i64 y_22)) ∧ σ.env 9 = .one (.s (.int .i64 y_25)) ∧ σ.env 10 = .one (.s (.int .i64 y_28)) ∧ σ.env 11 = .one (.s (.int .i64 y_31.1)) ∧ σ.env 12 = .one (.s (.bool y_31.2)) ∧ σ.env 48 = .one (.s (.bool r_34)) ∧ σ.mem (1, 4) = some [(.s (.int .i64 s.kind)), (.s (.string s.a)), (.s (.string s.b))] ∧ σ.mem (1, 5) = some [(.l .shr h_.vars.length (encL h_.vars)), (.l .shr h_.next.length (encL h_.next))] ∧ σ.mem (1, 6) = some [(.l .own 0 []), (.l .own 0 [])] ∧ Tight (1) σ.mem ∧ NoBox [(1, 4), (1, 5), (1, 6)] σ.mem) ?_ ?_
    ·replace hp := h_35
     rw [zae]
     obtain ⟨y_51, h_52, hp⟩ := zaa hp
     have c_53 := C101_eq h_52
     simp at c_53
     try simp [-zae, kj57, q_4, q_5, q_6, q_7, q_8, q_9, q_10, q_11, h_21, c_24, c_27, c_30, c_33, c_53]
     rcases zad hp with ⟨h_54, hp⟩ | ⟨h_54, hp⟩
     ·try simp at h_54
      obtain ⟨y_55, h_56, hp⟩ := zaa hp
      have c_57 := C102_eq h_56
      simp at c_57
      cases hp
      try simp [-zae, kj57, q_4, q_5, q_6, q_7, q_8, q_9, q_10, q_11, h_21, h_54, c_57]
      refine goal_join ?_
      refine ⟨?_, ?_, ?_, ?_, ?_, ?_, ?_, ?_, ?_, ?_, ?_, ?_, (by repeat (first | exact ht_12 | exact zam _ | exact hT.up | exact hT | (simp only [q_4, q_5, q_6, q_7, q_8, q_9, q_10, q_11]; done) | refine Tight.upd ?_ (by simp) (by simp))), (by intro k hk; simp at hk; simp [hk, -zae, kj57, q_4, q_5, q_6, q_7, q_8, q_9, q_10, q_11, h_21, h_54, c_57, hn_13 k (by simp [hk])])⟩ <;> simp [zab, zac, -zae, kj57, q_4, q_5, q_6, q_7, q_8, q_9, q_10, q_11, h_21, h_54, c_57]
     ·try simp at h_54
      cases hp
      try simp [-zae, kj57, q_4, q_5, q_6, q_7, q_8, q_9, q_10, q_11, h_21, h_54]
      refine goal_join ?_
      refine ⟨?_, ?_, ?_, ?_, ?_, ?_, ?_, ?_, ?_, ?_, ?_, ?_, (by repeat (first | exact ht_12 | exact zam _ | exact hT.up | exact hT | (simp only [q_4, q_5, q_6, q_7, q_8, q_9, q_10, q_11]; done) | refine Tight.upd ?_ (by simp) (by simp))), (by intro k hk; simp at hk; simp [hk, -zae, kj57, q_4, q_5, q_6, q_7, q_8, q_9, q_10, q_11, h_21, h_54, hn_13 k (by simp [hk])])⟩ <;> simp [zab, zac, -zae, kj57, q_4, q_5, q_6, q_7, q_8, q_9, q_10, q_11, h_21, h_54]
    ·intro σ_36 hJ
     obtain ⟨q_37, q_38, q_39, q_40, q_41, q_42, q_43, q_44, q_45, q_46, q_47, q_48, ht_49, hn_50⟩ := hJ
     try simp [-zae, kj57, h_21, q_37, q_38, q_39, q_40, q_41, q_42, q_43, q_44, q_45, q_46, q_47, q_48]
     rcases zad hp with ⟨h_58, hp⟩ | ⟨h_58, hp⟩
     ·try simp at h_58
      cases hp
      simp [Goal, FnEnd, retR, rsrc, RSrc.val, nodupR, nodup, tupPart, -zae, kj57, h_21, q_37, q_38, q_39, q_40, q_41, q_42, q_43, q_44, q_45, q_46, q_47, q_48, h_58]
     ·try simp at h_58
      try simp [-zae, kj57, h_21, q_37, q_38, q_39, q_40, q_41, q_42, q_43, q_44, q_45, q_46, q_47, q_48, h_58]
      obtain ⟨r_59, h_60, hp⟩ := zaa hp
      refine joinP (J := fun (σ : St) => σ.env 4 = .one (.ptr (1, 4) 0) ∧ σ.env 5 = .one (.ptr (1, 5) 0) ∧ σ.env 6 = .one (.ptr (1, 6) 0) ∧ σ.env 8 = .one (.s (.int .i64 y_22)) ∧ σ.env 9 = .one (.s (.int .i64 y_25)) ∧ σ.env 10 = .one (.s (.int .i64 y_28)) ∧ σ.env 60 = .one (.s (.bool r_59)) ∧ σ.mem (1, 4) = some [(.s (.int .i64 s.kind)), (.s (.string s.a)), (.s (.string s.b))] ∧ σ.mem (1, 5) = some [(.l .shr h_.vars.length (encL h_.vars)), (.l .shr h_.next.length (encL h_.next))] ∧ σ.mem (1, 6) = some [(.l .own 0 []), (.l .own 0 [])] ∧ Tight (1) σ.mem ∧ NoBox [(1, 4), (1, 5), (1, 6)] σ.mem) ?_ ?_
      ·replace hp := h_60
       rw [zae]
       try simp [-zae, kj57, h_21, q_37, q_38, q_39, q_40, q_41, q_42, q_43, q_44, q_45, q_46, q_47, q_48, h_58]
       rcases zad hp with ⟨h_74, hp⟩ | ⟨h_74, hp⟩
       ·try simp at h_74
        cases hp
        try simp [-zae, kj57, h_21, q_37, q_38, q_39, q_40, q_41, q_42, q_43, q_44, q_45, q_46, q_47, q_48, h_58, h_74]
        refine goal_join ?_
        refine ⟨?_, ?_, ?_, ?_, ?_, ?_, ?_, ?_, ?_, ?_, (by repeat (first | exact ht_49 | exact zam _ | exact hT.up | exact hT | (simp only [q_37, q_38, q_39, q_40, q_41, q_42, q_43, q_44, q_45, q_46, q_47, q_48]; done) | refine Tight.upd ?_ (by simp) (by simp))), (by intro k hk; simp at hk; simp [hk, -zae, kj57, h_21, q_37, q_38, q_39, q_40, q_41, q_42, q_43, q_44, q_45, q_46, q_47, q_48, h_58, h_74, hn_50 k (by simp [hk])])⟩ <;> simp [zab, zac, -zae, kj57, h_21, q_37, q_38, q_39, q_40, q_41, q_42, q_43, q_44, q_45, q_46, q_47, q_48, h_58, h_74]
       ·try simp at h_74
        cases hp
        try simp [-zae, kj57, h_21, q_37, q_38, q_39, q_40, q_41, q_42, q_43, q_44, q_45, q_46, q_47, q_48, h_58, h_74]
        refine goal_join ?_
        refine ⟨?_, ?_, ?_, ?_, ?_, ?_, ?_, ?_, ?_, ?_, (by repeat (first | exact ht_49 | exact zam _ | exact hT.up | exact hT | (simp only [q_37, q_38, q_39, q_40, q_41, q_42, q_43, q_44, q_45, q_46, q_47, q_48]; done) | refine Tight.upd ?_ (by simp) (by simp))), (by intro k hk; simp at hk; simp [hk, -zae, kj57, h_21, q_37, q_38, q_39, q_40, q_41, q_42, q_43, q_44, q_45, q_46, q_47, q_48, h_58, h_74, hn_50 k (by simp [hk])])⟩ <;> simp [zab, zac, -zae, kj57, h_21, q_37, q_38, q_39, q_40, q_41, q_42, q_43, q_44, q_45, q_46, q_47, q_48, h_58, h_74]
      ·intro σ_61 hJ
       obtain ⟨q_62, q_63, q_64, q_65, q_66, q_67, q_68, q_69, q_70, q_71, ht_72, hn_73⟩ := hJ
       try simp [-zae, kj57, h_21, h_58, q_62, q_63, q_64, q_65, q_66, q_67, q_68, q_69, q_70, q_71]
       rcases zad hp with ⟨h_75, hp⟩ | ⟨h_75, hp⟩
       ·try simp at h_75
        cases hp
        simp [Goal, FnEnd, retR, rsrc, RSrc.val, nodupR, nodup, tupPart, -zae, kj57, h_21, h_58, q_62, q_63, q_64, q_65, q_66, q_67, q_68, q_69, q_70, q_71, h_75]
       ·try simp at h_75
        try simp [-zae, kj57, h_21, h_58, q_62, q_63, q_64, q_65, q_66, q_67, q_68, q_69, q_70, q_71, h_75]
        obtain ⟨r_76, h_77, hp⟩ := zaa hp
        refine joinP (J := fun (σ : St) => σ.env 4 = .one (.ptr (1, 4) 0) ∧ σ.env 5 = .one (.ptr (1, 5) 0) ∧ σ.env 6 = .one (.ptr (1, 6) 0) ∧ σ.env 8 = .one (.s (.int .i64 y_22)) ∧ σ.env 9 = .one (.s (.int .i64 y_25)) ∧ σ.env 10 = .one (.s (.int .i64 y_28)) ∧ σ.env 67 = .one (.s (.bool r_76)) ∧ σ.mem (1, 4) = some [(.s (.int .i64 s.kind)), (.s (.string s.a)), (.s (.string s.b))] ∧ σ.mem (1, 5) = some [(.l .shr h_.vars.length (encL h_.vars)), (.l .shr h_.next.length (encL h_.next))] ∧ σ.mem (1, 6) = some [(.l .own 0 []), (.l .own 0 [])] ∧ Tight (1) σ.mem ∧ NoBox [(1, 4), (1, 5), (1, 6)] σ.mem) ?_ ?_
        ·replace hp := h_77
         rw [zae]
         try simp [-zae, kj57, h_21, h_58, q_62, q_63, q_64, q_65, q_66, q_67, q_68, q_69, q_70, q_71, h_75]
         rcases zad hp with ⟨h_91, hp⟩ | ⟨h_91, hp⟩
         ·try simp at h_91
          cases hp
          try simp [-zae, kj57, h_21, h_58, q_62, q_63, q_64, q_65, q_66, q_67, q_68, q_69, q_70, q_71, h_75, h_91]
          refine goal_join ?_
          refine ⟨?_, ?_, ?_, ?_, ?_, ?_, ?_, ?_, ?_, ?_, (by repeat (first | exact ht_72 | exact zam _ | exact hT.up | exact hT | (simp only [q_62, q_63, q_64, q_65, q_66, q_67, q_68, q_69, q_70, q_71]; done) | refine Tight.upd ?_ (by simp) (by simp))), (by intro k hk; simp at hk; simp [hk, -zae, kj57, h_21, h_58, q_62, q_63, q_64, q_65, q_66, q_67, q_68, q_69, q_70, q_71, h_75, h_91, hn_73 k (by simp [hk])])⟩ <;> simp [zab, zac, -zae, kj57, h_21, h_58, q_62, q_63, q_64, q_65, q_66, q_67, q_68, q_69, q_70, q_71, h_75, h_91]
         ·try simp at h_91
          cases hp
          try simp [-zae, kj57, h_21, h_58, q_62, q_63, q_64, q_65, q_66, q_67, q_68, q_69, q_70, q_71, h_75, h_91]
          refine goal_join ?_
          refine ⟨?_, ?_, ?_, ?_, ?_, ?_, ?_, ?_, ?_, ?_, (by repeat (first | exact ht_72 | exact zam _ | exact hT.up | exact hT | (simp only [q_62, q_63, q_64, q_65, q_66, q_67, q_68, q_69, q_70, q_71]; done) | refine Tight.upd ?_ (by simp) (by simp))), (by intro k hk; simp at hk; simp [hk, -zae, kj57, h_21, h_58, q_62, q_63, q_64, q_65, q_66, q_67, q_68, q_69, q_70, q_71, h_75, h_91, hn_73 k (by simp [hk])])⟩ <;> simp [zab, zac, -zae, kj57, h_21, h_58, q_62, q_63, q_64, q_65, q_66, q_67, q_68, q_69, q_70, q_71, h_75, h_91]
        ·intro σ_78 hJ
         obtain ⟨q_79, q_80, q_81, q_82, q_83, q_84, q_85, q_86, q_87, q_88, ht_89, hn_90⟩ := hJ
         try simp [-zae, kj57, h_21, h_58, h_75, q_79, q_80, q_81, q_82, q_83, q_84, q_85, q_86, q_87, q_88]
         rcases zad hp with ⟨h_92, hp⟩ | ⟨h_92, hp⟩
         ·try simp at h_92
          cases hp
          simp [Goal, FnEnd, retR, rsrc, RSrc.val, nodupR, nodup, tupPart, -zae, kj57, h_21, h_58, h_75, q_79, q_80, q_81, q_82, q_83, q_84, q_85, q_86, q_87, q_88, h_92]
         ·try simp at h_92
          try simp [-zae, kj57, h_21, h_58, h_75, q_79, q_80, q_81, q_82, q_83, q_84, q_85, q_86, q_87, q_88, h_92]
          obtain ⟨r_93, h_94, hp⟩ := zaa hp
          refine joinP (J := fun (σ : St) => σ.env 4 = .one (.ptr (1, 4) 0) ∧ σ.env 5 = .one (.ptr (1, 5) 0) ∧ σ.env 6 = .one (.ptr (1, 6) 0) ∧ σ.env 8 = .one (.s (.int .i64 y_22)) ∧ σ.env 9 = .one (.s (.int .i64 y_25)) ∧ σ.env 10 = .one (.s (.int .i64 y_28)) ∧ σ.env 78 = .one (.s (.bool r_93)) ∧ σ.mem (1, 4) = some [(.s (.int .i64 s.kind)), (.s (.string s.a)), (.s (.string s.b))] ∧ σ.mem (1, 5) = some [(.l .shr h_.vars.length (encL h_.vars)), (.l .shr h_.next.length (encL h_.next))] ∧ σ.mem (1, 6) = some [(.l .own 0 []), (.l .own 0 [])] ∧ Tight (1) σ.mem ∧ NoBox [(1, 4), (1, 5), (1, 6)] σ.mem) ?_ ?_
          ·replace hp := h_94
           rw [zae]
           try simp [-zae, kj57, h_21, h_58, h_75, q_79, q_80, q_81, q_82, q_83, q_84, q_85, q_86, q_87, q_88, h_92]
           rcases zad hp with ⟨h_108, hp⟩ | ⟨h_108, hp⟩
           ·try simp at h_108
            obtain ⟨y_109, h_110, hp⟩ := zaa hp
            have c_111 := C103_eq h_110
            simp at c_111
            try simp [-zae, kj57, h_21, h_58, h_75, q_79, q_80, q_81, q_82, q_83, q_84, q_85, q_86, q_87, q_88, h_92, h_108, c_111]
            rcases zad hp with ⟨h_112, hp⟩ | ⟨h_112, hp⟩
            ·try simp at h_112
             cases hp
             try simp [-zae, kj57, h_21, h_58, h_75, q_79, q_80, q_81, q_82, q_83, q_84, q_85, q_86, q_87, q_88, h_92, h_108, h_112]
             refine goal_join ?_
             refine ⟨?_, ?_, ?_, ?_, ?_, ?_, ?_, ?_, ?_, ?_, (by repeat (first | exact ht_89 | exact zam _ | exact hT.up | exact hT | (simp only [q_79, q_80, q_81, q_82, q_83, q_84, q_85, q_86, q_87, q_88]; done) | refine Tight.upd ?_ (by simp) (by simp))), (by intro k hk; simp at hk; simp [hk, -zae, kj57, h_21, h_58, h_75, q_79, q_80, q_81, q_82, q_83, q_84, q_85, q_86, q_87, q_88, h_92, h_108, h_112, hn_90 k (by simp [hk])])⟩ <;> simp [zab, zac, -zae, kj57, h_21, h_58, h_75, q_79, q_80, q_81, q_82, q_83, q_84, q_85, q_86, q_87, q_88, h_92, h_108, h_112]
            ·try simp at h_112
             obtain ⟨y_113, h_114, hp⟩ := zaa hp
             have c_115 := C104_eq h_114
             simp at c_115
             cases hp
             try simp [-zae, kj57, h_21, h_58, h_75, q_79, q_80, q_81, q_82, q_83, q_84, q_85, q_86, q_87, q_88, h_92, h_108, h_112, c_115]
             refine goal_join ?_
             refine ⟨?_, ?_, ?_, ?_, ?_, ?_, ?_, ?_, ?_, ?_, (by repeat (first | exact ht_89 | exact zam _ | exact hT.up | exact hT | (simp only [q_79, q_80, q_81, q_82, q_83, q_84, q_85, q_86, q_87, q_88]; done) | refine Tight.upd ?_ (by simp) (by simp))), (by intro k hk; simp at hk; simp [hk, -zae, kj57, h_21, h_58, h_75, q_79, q_80, q_81, q_82, q_83, q_84, q_85, q_86, q_87, q_88, h_92, h_108, h_112, c_115, hn_90 k (by simp [hk])])⟩ <;> simp [zab, zac, -zae, kj57, h_21, h_58, h_75, q_79, q_80, q_81, q_82, q_83, q_84, q_85, q_86, q_87, q_88, h_92, h_108, h_112, c_115]
           ·try simp at h_108
            cases hp
            try simp [-zae, kj57, h_21, h_58, h_75, q_79, q_80, q_81, q_82, q_83, q_84, q_85, q_86, q_87, q_88, h_92, h_108]
            refine goal_join ?_
            refine ⟨?_, ?_, ?_, ?_, ?_, ?_, ?_, ?_, ?_, ?_, (by repeat (first | exact ht_89 | exact zam _ | exact hT.up | exact hT | (simp only [q_79, q_80, q_81, q_82, q_83, q_84, q_85, q_86, q_87, q_88]; done) | refine Tight.upd ?_ (by simp) (by simp))), (by intro k hk; simp at hk; simp [hk, -zae, kj57, h_21, h_58, h_75, q_79, q_80, q_81, q_82, q_83, q_84, q_85, q_86, q_87, q_88, h_92, h_108, hn_90 k (by simp [hk])])⟩ <;> simp [zab, zac, -zae, kj57, h_21, h_58, h_75, q_79, q_80, q_81, q_82, q_83, q_84, q_85, q_86, q_87, q_88, h_92, h_108]
          ·intro σ_95 hJ
           obtain ⟨q_96, q_97, q_98, q_99, q_100, q_101, q_102, q_103, q_104, q_105, ht_106, hn_107⟩ := hJ
           try simp [-zae, kj57, h_21, h_58, h_75, h_92, q_96, q_97, q_98, q_99, q_100, q_101, q_102, q_103, q_104, q_105]
           rcases zad hp with ⟨h_116, hp⟩ | ⟨h_116, hp⟩
           ·try simp at h_116
            cases hp
            simp [Goal, FnEnd, retR, rsrc, RSrc.val, nodupR, nodup, tupPart, -zae, kj57, h_21, h_58, h_75, h_92, q_96, q_97, q_98, q_99, q_100, q_101, q_102, q_103, q_104, q_105, h_116]
           ·try simp at h_116
            try simp [-zae, kj57, h_21, h_58, h_75, h_92, q_96, q_97, q_98, q_99, q_100, q_101, q_102, q_103, q_104, q_105, h_116]
            obtain ⟨r_117, h_118, hp⟩ := zaa hp
            refine joinP (J := fun (σ : St) => σ.env 4 = .one (.ptr (1, 4) 0) ∧ σ.env 5 = .one (.ptr (1, 5) 0) ∧ σ.env 6 = .one (.ptr (1, 6) 0) ∧ σ.env 8 = .one (.s (.int .i64 y_22)) ∧ σ.env 9 = .one (.s (.int .i64 y_25)) ∧ σ.env 10 = .one (.s (.int .i64 y_28)) ∧ σ.env 97 = .one (.s (.bool r_117)) ∧ σ.mem (1, 4) = some [(.s (.int .i64 s.kind)), (.s (.string s.a)), (.s (.string s.b))] ∧ σ.mem (1, 5) = some [(.l .shr h_.vars.length (encL h_.vars)), (.l .shr h_.next.length (encL h_.next))] ∧ σ.mem (1, 6) = some [(.l .own 0 []), (.l .own 0 [])] ∧ Tight (1) σ.mem ∧ NoBox [(1, 4), (1, 5), (1, 6)] σ.mem) ?_ ?_
            ·replace hp := h_118
             rw [zae]
             try simp [-zae, kj57, h_21, h_58, h_75, h_92, q_96, q_97, q_98, q_99, q_100, q_101, q_102, q_103, q_104, q_105, h_116]
             rcases zad hp with ⟨h_132, hp⟩ | ⟨h_132, hp⟩
             ·try simp at h_132
              obtain ⟨y_133, h_134, hp⟩ := zaa hp
              have c_135 := C105_eq h_134
              simp at c_135
              obtain ⟨y_136, h_137, hp⟩ := zaa hp
              have c_138 := C104_eq h_137
              simp at c_138
              cases hp
              try simp [-zae, kj57, h_21, h_58, h_75, h_92, q_96, q_97, q_98, q_99, q_100, q_101, q_102, q_103, q_104, q_105, h_116, h_132, c_135, c_138]
              refine goal_join ?_
              refine ⟨?_, ?_, ?_, ?_, ?_, ?_, ?_, ?_, ?_, ?_, (by repeat (first | exact ht_106 | exact zam _ | exact hT.up | exact hT | (simp only [q_96, q_97, q_98, q_99, q_100, q_101, q_102, q_103, q_104, q_105]; done) | refine Tight.upd ?_ (by simp) (by simp))), (by intro k hk; simp at hk; simp [hk, -zae, kj57, h_21, h_58, h_75, h_92, q_96, q_97, q_98, q_99, q_100, q_101, q_102, q_103, q_104, q_105, h_116, h_132, c_135, c_138, hn_107 k (by simp [hk])])⟩ <;> simp [zab, zac, -zae, kj57, h_21, h_58, h_75, h_92, q_96, q_97, q_98, q_99, q_100, q_101, q_102, q_103, q_104, q_105, h_116, h_132, c_135, c_138]
             ·try simp at h_132
              cases hp
              try simp [-zae, kj57, h_21, h_58, h_75, h_92, q_96, q_97, q_98, q_99, q_100, q_101, q_102, q_103, q_104, q_105, h_116, h_132]
              refine goal_join ?_
              refine ⟨?_, ?_, ?_, ?_, ?_, ?_, ?_, ?_, ?_, ?_, (by repeat (first | exact ht_106 | exact zam _ | exact hT.up | exact hT | (simp only [q_96, q_97, q_98, q_99, q_100, q_101, q_102, q_103, q_104, q_105]; done) | refine Tight.upd ?_ (by simp) (by simp))), (by intro k hk; simp at hk; simp [hk, -zae, kj57, h_21, h_58, h_75, h_92, q_96, q_97, q_98, q_99, q_100, q_101, q_102, q_103, q_104, q_105, h_116, h_132, hn_107 k (by simp [hk])])⟩ <;> simp [zab, zac, -zae, kj57, h_21, h_58, h_75, h_92, q_96, q_97, q_98, q_99, q_100, q_101, q_102, q_103, q_104, q_105, h_116, h_132]
            ·intro σ_119 hJ
             obtain ⟨q_120, q_121, q_122, q_123, q_124, q_125, q_126, q_127, q_128, q_129, ht_130, hn_131⟩ := hJ
             try simp [-zae, kj57, h_21, h_58, h_75, h_92, h_116, q_120, q_121, q_122, q_123, q_124, q_125, q_126, q_127, q_128, q_129]
             rcases zad hp with ⟨h_139, hp⟩ | ⟨h_139, hp⟩
             ·try simp at h_139
              cases hp
              simp [Goal, FnEnd, retR, rsrc, RSrc.val, nodupR, nodup, tupPart, -zae, kj57, h_21, h_58, h_75, h_92, h_116, q_120, q_121, q_122, q_123, q_124, q_125, q_126, q_127, q_128, q_129, h_139]
             ·try simp at h_139
              obtain ⟨y_140, h_141, hp⟩ := zaa hp
              try simp [-zae, kj57, h_21, h_58, h_75, h_92, h_116, q_120, q_121, q_122, q_123, q_124, q_125, q_126, q_127, q_128, q_129, h_139]
              refine goal_callE [av .shr h_, av .shr s, av .shr y_22, av .shr y_25, av .shr y_28] (fun r => ∃ me_142 : Md, r = av me_142 y_140) (by simp [-zae, kj57, h_21, h_58, h_75, h_92, h_116, q_120, q_121, q_122, q_123, q_124, q_125, q_126, q_127, q_128, q_129, h_139]) (wI106 G_106 (by repeat (first | exact ht_130 | exact zam _ | exact hT.up | exact hT | (simp only [q_120, q_121, q_122, q_123, q_124, q_125, q_126, q_127, q_128, q_129]; done) | refine Tight.upd ?_ (by simp) (by simp))) (killB_keys (L := [(1, 4), (1, 5), (1, 6)]) (by intro k hk; simp at hk; simp [hk, -zae, kj57, h_21, h_58, h_75, h_92, h_116, q_120, q_121, q_122, q_123, q_124, q_125, q_126, q_127, q_128, q_129, h_139, hn_131 k (by simp [hk])]) (by simp [-zae, kj57, h_21, h_58, h_75, h_92, h_116, q_120, q_121, q_122, q_123, q_124, q_125, q_126, q_127, q_128, q_129, h_139])) h_141) ?_
              rintro _ ⟨me_142, rfl⟩
              have n_143 := hn_131 (1, 13) (by simp)
              obtain ⟨y_144, h_145, hp⟩ := zaa hp
              have c_146 := C107_eq h_145
              simp at c_146
              try simp [-zae, kj57, h_21, h_58, h_75, h_92, h_116, q_120, q_121, q_122, q_123, q_124, q_125, q_126, q_127, q_128, q_129, h_139, n_143, c_146]
              rcases zad hp with ⟨h_147, hp⟩ | ⟨h_147, hp⟩
              ·try simp at h_147
               cases hp
               simp [Goal, FnEnd, retR, rsrc, RSrc.val, nodupR, nodup, tupPart, -zae, kj57, h_21, h_58, h_75, h_92, h_116, q_120, q_121, q_122, q_123, q_124, q_125, q_126, q_127, q_128, q_129, h_139, h_147]
              ·try simp at h_147
               obtain ⟨y_148, h_149, hp⟩ := zaa hp
               have c_150 := C108_eq h_149
               simp at c_150
               cases hp
               simp [Goal, FnEnd, retR, rsrc, RSrc.val, nodupR, nodup, tupPart, -zae, kj57, h_21, h_58, h_75, h_92, h_116, q_120, q_121, q_122, q_123, q_124, q_125, q_126, q_127, q_128, q_129, h_139, h_147, c_150]
theorem pc57 : PC Tryz.prog 57 C57 := pc_of (g := g57) (ctxOK_ofO [(54, C54), (93, C93), (97, C97), (98, C98), (99, C99), (100, C100), (101, C101), (102, C102), (103, C103), (104, C104), (105, C105), (107, C107), (108, C108)] rfl ⟨pc54, pc93, pc97, pc98, pc99, pc100, pc101, pc102, pc103, pc104, pc105, pc107, pc108, trivial⟩ [(143, C143)] rfl ⟨po143, trivial⟩) ⟨Tryz.f57, Tryz.func57, by kernel_rfl, by kernel_rfl⟩ fun x y h => w57 h

noncomputable def C14 : List AV → Option AV := specP (X := TProgram × THeap × (List Int) × Unit) fun x => impl_Follow x.1 x.2.1 x.2.2.1
theorem C14_eq {p_ h_ edges} {y} (h : impl_Follow p_ h_ edges = some y) : C14 [av .shr p_, av .shr h_, av .shr edges] = some (Res.res y) := zag (X := TProgram × THeap × (List Int) × Unit) (F := fun x => impl_Follow x.1 x.2.1 x.2.2.1) (x := (p_, h_, edges, ())) h
noncomputable def g14 : Cfg := { P := Tryz.prog, take := [(14, 54), (14, 56), (14, 72), (14, 81), (14, 84)], keep := [((14, 5), { hd := [2, 3, 6, 9, 29, 30, 31], bx := [12], ex := [2, 6, 9], rt := [6, 7, 8] })], gho := [], ctx := [(53, C53), (54, C54), (55, C55), (56, C56), (57, C57)], away := [(14, 76, 12), (14, 80, 12)] }
@[simp] theorem g14_s : g14.P = Tryz.prog ∧ g14.take = [(14, 54), (14, 56), (14, 72), (14, 81), (14, 84)] ∧ g14.gho = [] ∧ g14.ro = [] ∧ g14.away = [(14, 76, 12), (14, 80, 12)] ∧ g14.give = [] ∧ g14.octx = [] ∧ lookN 53 g14.ctx = some C53 ∧ lookN 54 g14.ctx = some C54 ∧ lookN 55 g14.ctx = some C55 ∧ lookN 56 g14.ctx = some C56 ∧ lookN 57 g14.ctx = some C57 := by rw [g14]; exact ⟨rfl, rfl, rfl, rfl, rfl, rfl, rfl, rfl, rfl, rfl, rfl, rfl⟩
@[simp] theorem g14_wa (d f dst key) : awayB g14 d f dst key = awayL [(14, 76, 12), (14, 80, 12)] d f dst key := rfl
@[simp] theorem g14_wl (d f a key) : lateB g14 d f a key = lateL [(14, 76, 12), (14, 80, 12)] d f a key := rfl
theorem w14 {p_ h_ edges} {y} (hp : impl_Follow p_ h_ edges = some y) : ∃ m, callo g14 0 14 [av .shr p_, av .shr h_, av .shr edges] mem0 = some (Res.res y, m) := by
  refine zah (Tryz.f14.body.getD .skip) [.cell 6 33, .tmp 7, .tmp 8] rfl rfl Tryz.func14 (by kernel_rfl) (by kernel_rfl) (by simp [Tryz.ntmps14]) rfl ?_
  unfold impl_Follow at hp
  obtain ⟨y_1, h_2, hp⟩ := zaa hp
  have c_3 := C53_eq h_2
  simp at c_3
  simp [Tryz.f14, c_3]
  rcases zad hp with ⟨h_4, hp⟩ | ⟨h_4, hp⟩
  ·try simp at h_4
   obtain ⟨y_5, h_6, hp⟩ := zaa hp
   have c_7 := C54_eq h_6
   simp at c_7
   try simp [h_4, c_7]
   rcases zad hp with ⟨h_8, hp⟩ | ⟨h_8, hp⟩
   ·try simp at h_8
    obtain ⟨y_9, h_10, hp⟩ := zaa hp
    have c_11 := C55_eq h_10
    simp at c_11
    try simp [h_4, h_8, c_11]
    obtain ⟨r_60, h_61, hp⟩ := zaa hp
    obtain ⟨I_14, I_14_⟩ : ∃ I : Int × Int × (List Int) × (List Int) → St → Prop, I = (fun (s_12 : Int × Int × (List Int) × (List Int)) (σ : St) => σ.env 2 = .one (.l .shr edges.length (encL edges)) ∧ σ.env 3 = .one (.ptr (1, 3) 0) ∧ σ.env 6 = .one (.ptr (1, 6) 0) ∧ σ.env 9 = .one (.ptr (1, 9) 0) ∧ σ.env 29 = .one (.l .shr edges.length (encL edges)) ∧ σ.env 30 = .one (.s (.int .i64 (edges.length : Int))) ∧ σ.env 31 = .one (.s (.int .i64 s_12.1)) ∧ σ.mem (1, 3) = some [(.l .shr p_.vars.length (encL p_.vars)), (.s (.int .i64 p_.points)), (.l .shr p_.edges.length (encL p_.edges))] ∧ σ.mem (1, 4) = some [(.l .shr h_.vars.length (encL h_.vars)), (.l .shr h_.next.length (encL h_.next))] ∧ σ.mem (1, 6) = some [(.s (.int .i64 0)), (.l .own 0 []), (.l .own 0 [])] ∧ σ.mem (1, 9) = some [(.s (.int .i64 s_12.2.1)), (.l .own s_12.2.2.1.length (encL s_12.2.2.1)), (.l .own s_12.2.2.2.length (encL s_12.2.2.2))] ∧ NoBox [(1, 3), (1, 4), (1, 6), (1, 9)] σ.mem) := ⟨_, rfl⟩
    obtain ⟨X_15, X_15_⟩ : ∃ X : ((Int × Int × Int × (List Int) × (List Int)) ⊕ (Int × (List Int) × (List Int))) → Out → Prop, X = (fun (r_60 : (Int × Int × Int × (List Int) × (List Int)) ⊕ (Int × (List Int) × (List Int))) (out : Out) => Sum.elim (fun r_60 => ∃ σ : St, out = .ret σ ∧ σ.env 6 = .one (.ptr (1, 6) 0) ∧ σ.env 7 = .one (.s (.int .i64 r_60.1)) ∧ σ.env 8 = .one (.s (.int .i64 r_60.2.1)) ∧ σ.mem (1, 3) = some [(.l .shr p_.vars.length (encL p_.vars)), (.s (.int .i64 p_.points)), (.l .shr p_.edges.length (encL p_.edges))] ∧ σ.mem (1, 4) = some [(.l .shr h_.vars.length (encL h_.vars)), (.l .shr h_.next.length (encL h_.next))] ∧ σ.mem (1, 6) = some [(.s (.int .i64 r_60.2.2.1)), (.l .own r_60.2.2.2.1.length (encL r_60.2.2.2.1)), (.l .own r_60.2.2.2.2.length (encL r_60.2.2.2.2))] ∧ σ.mem (1, 9) = some [.dead, .dead, .dead] ∧ NoBox [(1, 3), (1, 4), (1, 6), (1, 9)] σ.mem) (fun r_60 => ∃ σ : St, out = .exit 0 σ ∧ σ.env 2 = .one (.l .shr edges.length (encL edges)) ∧ σ.env 6 = .one (.ptr (1, 6) 0) ∧ σ.env 9 = .one (.ptr (1, 9) 0) ∧ σ.mem (1, 3) = some [(.l .shr p_.vars.length (encL p_.vars)), (.s (.int .i64 p_.points)), (.l .shr p_.edges.length (encL p_.edges))] ∧ σ.mem (1, 4) = some [(.l .shr h_.vars.length (encL h_.vars)), (.l .shr h_.next.length (encL h_.next))] ∧ σ.mem (1, 6) = some [(.s (.int .i64 0)), (.l .own 0 []), (.l .own 0 [])] ∧ σ.mem (1, 9) = some [(.s (.int .i64 r_60.1)), (.l .own r_60.2.1.length (encL r_60.2.1)), (.l .own r_60.2.2.length (encL r_60.2.2))] ∧ NoBox [(1, 3), (1, 4), (1, 6), (1, 9)] σ.mem) r_60) := ⟨_, rfl⟩
    refine loopP ({ hd := [2, 3, 6, 9, 29, 30, 31], bx := [12], ex := [2, 6, 9], rt := [6, 7, 8] }) I_14 X_15 h_61 (by exact rfl) ?_ ?_ ?_
    ·rw [I_14_]
     refine ⟨?_, ?_, ?_, ?_, ?_, ?_, ?_, ?_, ?_, ?_, ?_, NoBox.restrict (by intro k hk hb; simp at hk hb; simp [hk, hb, h_4, h_8])⟩ <;> simp [zab, zac, h_4, h_8]
    ·intro s_12 σ_16 a_13 hI hp
     rw [I_14_] at hI
     obtain ⟨q_17, q_18, q_19, q_20, q_21, q_22, q_23, q_24, q_25, q_26, q_27, hn_28⟩ := hI
     try simp [h_4, h_8, q_17, q_18, q_19, q_20, q_21, q_22, q_23, q_24, q_25, q_26, q_27]
     rcases zad hp with ⟨h_29, hp⟩ | ⟨h_29, hp⟩
     ·try simp at h_29
      obtain ⟨e_30, h_31, hp⟩ := zaa hp
      have b_32 := at_lo h_31
      have b_33 := at_hi h_31
      try simp at b_32 b_33
      have c_34 := seg_at' h_31 0 1 (by decide) (ds := [.sc (.int .i64 e_30)]) rfl
      try simp at c_34
      obtain ⟨y_35, h_36, hp⟩ := zaa hp
      have c_37 := C56_eq h_36
      simp at c_37
      try simp [h_4, h_8, q_17, q_18, q_19, q_20, q_21, q_22, q_23, q_24, q_25, q_26, q_27, h_29, b_32, b_33, c_34, c_37]
      rcases zad hp with ⟨h_38, hp⟩ | ⟨h_38, hp⟩
      ·try simp at h_38
       obtain ⟨e_39, h_40, hp⟩ := zaa hp
       have b_41 := at_lo h_40
       have b_42 := at_hi h_40
       try simp at b_41 b_42
       have c_43 := seg_at' h_40 0 1 (by decide) (ds := [.sc (.int .i64 e_39.from_)]) rfl
       try simp at c_43
       try simp [h_4, h_8, q_17, q_18, q_19, q_20, q_21, q_22, q_23, q_24, q_25, q_26, q_27, h_29, h_38, b_41, b_42, c_43]
       rcases zad hp with ⟨h_44, hp⟩ | ⟨h_44, hp⟩
       ·try simp at h_44
        cases hp
        try simp [h_4, h_8, q_17, q_18, q_19, q_20, q_21, q_22, q_23, q_24, q_25, q_26, q_27, h_29, h_38, h_44]
        refine zao ?_
        rw [X_15_]
        refine ⟨_, rfl, ?_, ?_, ?_, ?_, ?_, ?_, ?_, NoBox.restrict (by intro k hk hb; simp at hk hb; simp [hk, hb, h_4, h_8, q_17, q_18, q_19, q_20, q_21, q_22, q_23, q_24, q_25, q_26, q_27, h_29, h_38, h_44, hn_28 k (by simp [hk, hb])])⟩ <;> simp [zab, zac, h_4, h_8, q_17, q_18, q_19, q_20, q_21, q_22, q_23, q_24, q_25, q_26, q_27, h_29, h_38, h_44]
       ·try simp at h_44
        obtain ⟨e_45, h_46, hp⟩ := zaa hp
        cases Option.some.inj (h_40.symm.trans h_46)
        have b_47 := at_lo h_40
        have b_48 := at_hi h_40
        try simp at b_47 b_48
        have c_49 := seg_at' h_40 2 3 (by decide) (ds := [.sc (.int .i64 e_39.stmt.kind), .sc (.string e_39.stmt.a), .sc (.string e_39.stmt.b)]) rfl
        try simp at c_49
        obtain ⟨y_50, h_51, hp⟩ := zaa hp
        have c_52 := C57_eq h_51
        simp at c_52
        have n_53 := hn_28 (1, 12) (by simp)
        try simp [h_4, h_8, q_17, q_18, q_19, q_20, q_21, q_22, q_23, q_24, q_25, q_26, q_27, h_29, h_38, h_44, b_47, b_48, c_49, c_52, n_53]
        rcases zad hp with ⟨h_54, hp⟩ | ⟨h_54, hp⟩
        ·try simp at h_54
         cases hp
         try simp [h_4, h_8, q_17, q_18, q_19, q_20, q_21, q_22, q_23, q_24, q_25, q_26, q_27, h_29, h_38, h_44, h_54]
         refine zao ?_
         rw [X_15_]
         refine ⟨_, rfl, ?_, ?_, ?_, ?_, ?_, ?_, ?_, NoBox.restrict (by intro k hk hb; simp at hk hb; simp [hk, hb, h_4, h_8, q_17, q_18, q_19, q_20, q_21, q_22, q_23, q_24, q_25, q_26, q_27, h_29, h_38, h_44, h_54, hn_28 k (by simp [hk, hb])])⟩ <;> simp [zab, zac, h_4, h_8, q_17, q_18, q_19, q_20, q_21, q_22, q_23, q_24, q_25, q_26, q_27, h_29, h_38, h_44, h_54]
        ·try simp at h_54
         obtain ⟨e_55, h_56, hp⟩ := zaa hp
         cases Option.some.inj (h_40.symm.trans h_56)
         have b_57 := at_lo h_40
         have b_58 := at_hi h_40
         try simp at b_57 b_58
         have c_59 := seg_at' h_40 1 1 (by decide) (ds := [.sc (.int .i64 e_39.to_)]) rfl
         try simp at c_59
         cases hp
         try simp [h_4, h_8, q_17, q_18, q_19, q_20, q_21, q_22, q_23, q_24, q_25, q_26, q_27, h_29, h_38, h_44, h_54, b_57, b_58, c_59]
         refine zak ?_
         rw [I_14_]
         refine ⟨?_, ?_, ?_, ?_, ?_, ?_, ?_, ?_, ?_, ?_, ?_, NoBox.restrict (by intro k hk hb; simp at hk hb; simp [hk, hb, h_4, h_8, q_17, q_18, q_19, q_20, q_21, q_22, q_23, q_24, q_25, q_26, q_27, h_29, h_38, h_44, h_54, b_57, b_58, c_59, hn_28 k (by simp [hk, hb])])⟩ <;> simp [zab, zac, h_4, h_8, q_17, q_18, q_19, q_20, q_21, q_22, q_23, q_24, q_25, q_26, q_27, h_29, h_38, h_44, h_54, b_57, b_58, c_59]
      ·try simp at h_38
       cases hp
       try simp [h_4, h_8, q_17, q_18, q_19, q_20, q_21, q_22, q_23, q_24, q_25, q_26, q_27, h_29, h_38]
       refine zao ?_
       rw [X_15_]
       refine ⟨_, rfl, ?_, ?_, ?_, ?_, ?_, ?_, ?_, NoBox.restrict (by intro k hk hb; simp at hk hb; simp [hk, hb, h_4, h_8, q_17, q_18, q_19, q_20, q_21, q_22, q_23, q_24, q_25, q_26, q_27, h_29, h_38, hn_28 k (by simp [hk, hb])])⟩ <;> simp [zab, zac, h_4, h_8, q_17, q_18, q_19, q_20, q_21, q_22, q_23, q_24, q_25, q_26, q_27, h_29, h_38]
     ·try simp at h_29
      cases hp
      try simp [h_4, h_8, q_17, q_18, q_19, q_20, q_21, q_22, q_23, q_24, q_25, q_26, q_27, h_29]
      refine zan ?_
      rw [X_15_]
      refine ⟨_, rfl, ?_, ?_, ?_, ?_, ?_, ?_, ?_, NoBox.restrict (by intro k hk hb; simp at hk hb; simp [hk, hb, h_4, h_8, q_17, q_18, q_19, q_20, q_21, q_22, q_23, q_24, q_25, q_26, q_27, h_29, hn_28 k (by simp [hk, hb])])⟩ <;> simp [zab, zac, h_4, h_8, q_17, q_18, q_19, q_20, q_21, q_22, q_23, q_24, q_25, q_26, q_27, h_29]
    ·intro out hX
     rw [X_15_] at hX
     rcases r_60 with r_60 | r_60
     ·simp only [Sum.elim_inl, Sum.elim_inr] at hX hp
      obtain ⟨σ_62, rfl, q_63, q_64, q_65, q_66, q_67, q_68, q_69, hn_70⟩ := hX
      cases hp
      simp [Goal, FnEnd, retR, rsrc, RSrc.val, nodupR, nodup, tupPart, h_4, h_8, q_63, q_64, q_65, q_66, q_67, q_68, q_69]
     ·simp only [Sum.elim_inl, Sum.elim_inr] at hX hp
      obtain ⟨σ_71, rfl, q_72, q_73, q_74, q_75, q_76, q_77, q_78, hn_79⟩ := hX
      cases hp
      simp [Goal, FnEnd, retR, rsrc, RSrc.val, nodupR, nodup, tupPart, h_4, h_8, q_72, q_73, q_74, q_75, q_76, q_77, q_78]
   ·try simp at h_8
    cases hp
    simp [Goal, FnEnd, retR, rsrc, RSrc.val, nodupR, nodup, tupPart, h_4, h_8]
  ·try simp at h_4
   cases hp
   simp [Goal, FnEnd, retR, rsrc, RSrc.val, nodupR, nodup, tupPart, h_4]
theorem pc14 : PC Tryz.prog 14 C14 := pc_of (g := g14) (zai [(53, C53), (54, C54), (55, C55), (56, C56), (57, C57)] rfl ⟨pc53, pc54, pc55, pc56, pc57, trivial⟩) ⟨Tryz.f14, Tryz.func14, by kernel_rfl, by kernel_rfl⟩ fun x y h => w14 h
end Go.Proofs

