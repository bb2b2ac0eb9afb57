import Derived.Test.YtmmliafoddlgfaaGreatEvA15
set_option linter.unusedSimpArgs false
set_option linter.unusedVariables false
set_option linter.unnecessarySimpa false
noncomputable section
set_option maxHeartbeats 4000000
set_option maxRecDepth 100000
namespace Go.Proofs
open Go.Ev
def C99 : List AV → Option AV := specP (X := THeap × (List ByteArray) × ByteArray × Unit) fun x => impl_Heap_at x.1 x.2.1 x.2.2.1
theorem C99_eq {h_ vars name} {y} (h : impl_Heap_at h_ vars name = some y) : C99 [av .shr h_, av .shr vars, av .shr name] = some (Res.res y) := zag (x := (h_, vars, name, ())) h
def g99 : Cfg := { P := Tryz.prog, take := [], keep := [], gho := [], ctx := [(98, C98)] }
@[simp] theorem g99_s : g99.P = Tryz.prog ∧ g99.ctx = [(98, C98)] ∧ Pl0 g99 := by simp [g99]
theorem w99 {h_ vars name} {y} (hp : impl_Heap_at h_ vars name = some y) : ∃ m, callo g99 0 99 [av .shr h_, av .shr vars, av .shr name] mem0 = some (Res.res y, m) := by
 refine st0 [.tmp 6] Tryz.func99 ?_
 unfold impl_Heap_at at hp
 obtain ⟨y_1, h_2, hp⟩ := zab hp
 have c_3 := C98_eq h_2
 simp at c_3
 simp [Tryz.f99, c_3]
 rcases zad hp with ⟨h_4, hp⟩ | ⟨h_4, hp⟩
 ·try simp at h_4
  obtain ⟨e_5, h_6, hp⟩ := zab hp
  have b_7 := at_lo h_6
  have b_8 := at_hi h_6
  try simp at b_7 b_8
  have c_9 := seg_at' h_6 0 1 (by decide) (ds := [.sc (.int .i64 e_5)]) rfl
  try simp at c_9
  cases hp
  simp [Goal, FnEnd, h_4, b_7, b_8, c_9]
 ·try simp at h_4
  cases hp
  simp [Goal, FnEnd, h_4]
theorem pc99 : PC Tryz.prog 99 C99 := pc_of (g := g99) (zai _ g99_s.2.1 ⟨pc98, trivial⟩) (ent Tryz.func99) fun x y h => w99 h

def C100 : List AV → Option AV := specP (X := Int × Int × Int × Unit) fun x => impl_needs x.1 x.2.1 x.2.2.1
theorem C100_eq {kind a_ b_} {y} (h : impl_needs kind a_ b_ = some y) : C100 [av .shr kind, av .shr a_, av .shr b_] = some (Res.res y) := zag (x := (kind, a_, b_, ())) h
def g100 : Cfg := { P := Tryz.prog, take := [], keep := [], gho := [], ctx := [] }
@[simp] theorem g100_s : g100.P = Tryz.prog ∧ g100.ctx = [] ∧ Pl0 g100 := by simp [g100]
theorem w100 {kind a_ b_} {y} (hp : impl_needs kind a_ b_ = some y) : ∃ m, callo g100 0 100 [av .shr kind, av .shr a_, av .shr b_] mem0 = some (Res.res y, m) := by
 refine st0 [.tmp 6, .tmp 7] Tryz.func100 ?_
 unfold impl_needs at hp
 simp [Tryz.f100]
 rcases zad hp with ⟨h_1, hp⟩ | ⟨h_1, hp⟩
 ·try simp at h_1
  cases hp
  simp [Goal, FnEnd, retR, rsrc, RSrc.val, nodupR, nodup, tupPart, h_1]
 ·try simp at h_1
  try simp [h_1]
  rcases zad hp with ⟨h_2, hp⟩ | ⟨h_2, hp⟩
  ·try simp at h_2
   cases hp
   simp [Goal, FnEnd, retR, rsrc, RSrc.val, nodupR, nodup, tupPart, h_1, h_2]
  ·try simp at h_2
   try simp [h_1, h_2]
   rcases zad hp with ⟨h_3, hp⟩ | ⟨h_3, hp⟩
   ·try simp at h_3
    cases hp
    simp [Goal, FnEnd, retR, rsrc, RSrc.val, nodupR, nodup, tupPart, h_1, h_2, h_3]
   ·try simp at h_3
    try simp [h_1, h_2, h_3]
    rcases zad hp with ⟨h_4, hp⟩ | ⟨h_4, hp⟩
    ·try simp at h_4
     cases hp
     simp [Goal, FnEnd, retR, rsrc, RSrc.val, nodupR, nodup, tupPart, h_1, h_2, h_3, h_4]
    ·try simp at h_4
     cases hp
     simp [Goal, FnEnd, retR, rsrc, RSrc.val, nodupR, nodup, tupPart, h_1, h_2, h_3, h_4]
theorem pc100 : PC Tryz.prog 100 C100 := pc_of (g := g100) (zai [] rfl trivial) (ent Tryz.func100) fun x y h => w100 h

def C101 : List AV → Option AV := specP (X := TStmt × Unit) fun x => impl_IsTest x.1
theorem C101_eq {s} {y} (h : impl_IsTest s = some y) : C101 [av .shr s] = some (Res.res y) := zag (x := (s, ())) h
def g101 : Cfg := { P := Tryz.prog, take := [], keep := [], gho := [], ctx := [(56, C56)] }
@[simp] theorem g101_s : g101.P = Tryz.prog ∧ g101.ctx = [(56, C56)] ∧ Pl0 g101 := by simp [g101]
theorem w101 {s} {y} (hp : impl_IsTest s = some y) : ∃ m, callo g101 0 101 [av .shr s] mem0 = some (Res.res y, m) := by
 refine st0 [.tmp 2] Tryz.func101 ?_
 unfold impl_IsTest at hp
 obtain ⟨y_1, h_2, hp⟩ := zab hp
 have c_3 := C56_eq h_2
 simp at c_3
 cases hp
 simp [Tryz.f101, Goal, FnEnd, c_3]
theorem pc101 : PC Tryz.prog 101 C101 := pc_of (g := g101) (zai _ g101_s.2.1 ⟨pc56, trivial⟩) (ent Tryz.func101) fun x y h => w101 h

def C102 : List AV → Option AV := specP (X := Int × Int × Int × Unit) fun x => impl_holds x.1 x.2.1 x.2.2.1
theorem C102_eq {kind a_ b_} {y} (h : impl_holds kind a_ b_ = some y) : C102 [av .shr kind, av .shr a_, av .shr b_] = some (Res.res y) := zag (x := (kind, a_, b_, ())) h
def g102 : Cfg := { P := Tryz.prog, take := [], keep := [], gho := [], ctx := [] }
@[simp] theorem g102_s : g102.P = Tryz.prog ∧ g102.ctx = [] ∧ Pl0 g102 := by simp [g102]
theorem w102 {kind a_ b_} {y} (hp : impl_holds kind a_ b_ = some y) : ∃ m, callo g102 0 102 [av .shr kind, av .shr a_, av .shr b_] mem0 = some (Res.res y, m) := by
 refine st0 [.tmp 6] Tryz.func102 ?_
 unfold impl_holds at hp
 simp [Tryz.f102]
 rcases zad hp with ⟨h_1, hp⟩ | ⟨h_1, hp⟩
 ·try simp at h_1
  cases hp
  simp [Goal, FnEnd, h_1]
 ·try simp at h_1
  try simp [h_1]
  rcases zad hp with ⟨h_2, hp⟩ | ⟨h_2, hp⟩
  ·try simp at h_2
   cases hp
   simp [Goal, FnEnd, h_1, h_2]
  ·try simp at h_2
   try simp [h_1, h_2]
   rcases zad hp with ⟨h_3, hp⟩ | ⟨h_3, hp⟩
   ·try simp at h_3
    cases hp
    simp [Goal, FnEnd, h_1, h_2, h_3]
   ·try simp at h_3
    cases hp
    simp [Goal, FnEnd, h_1, h_2, h_3]
theorem pc102 : PC Tryz.prog 102 C102 := pc_of (g := g102) (zai [] rfl trivial) (ent Tryz.func102) fun x y h => w102 h

def C103 : List AV → Option AV := specP (X := (List Int) × Int × Unit) fun x => impl_Positions x.1 x.2.1
theorem C103_eq {list n_} {y} (h : impl_Positions list n_ = some y) : C103 [av .shr list, av .shr n_] = some (Res.res y) := zag (x := (list, n_, ())) h
def g103 : Cfg := { P := Tryz.prog, take := [(103, 19), (103, 24)], keep := [((103, 3), { hd := [1, 5, 9, 10, 11], bx := [], ex := [5], rt := [4] })], gho := [], ctx := [] }
@[simp] theorem g103_s : g103.P = Tryz.prog ∧ g103.ctx = [] ∧ Pl1 g103 ∧ g103.take = [(103, 19), (103, 24)] := by simp [g103]
theorem w103 {list n_} {y} (hp : impl_Positions list n_ = some y) : ∃ m, callo g103 0 103 [av .shr list, av .shr n_] mem0 = some (Res.res y, m) := by
 refine st0 [.tmp 4] Tryz.func103 ?_
 unfold impl_Positions at hp
 simp [Tryz.f103]
 obtain ⟨r_17, h_18, hp⟩ := zab hp
 obtain ⟨I_3, I_3_⟩ := exV fun (s_1 : (List Int) × Int) (σ : St) => (σ.env 1 = uI n_ ∧ σ.env 5 = uL .own s_1.1 ∧ σ.env 9 = uL .shr list ∧ σ.env 10 = uI (list.length : Int) ∧ σ.env 11 = uI s_1.2) ∧ σ.mem = mem0
 obtain ⟨X_4, X_4_⟩ := exV fun (r_17 : (List Int)) (out : Out) => ∃ σ : St, out = .exit 0 σ ∧ σ.env 5 = uL .own r_17 ∧ σ.mem = mem0
 refine loopP ({ hd := [1, 5, 9, 10, 11], bx := [], ex := [5], rt := [4] }) I_3 X_4 h_18 (by exact rfl) ?_ ?_ ?_
 ·rw [I_3_]
  exact ⟨by simp [zac, zaa], by simp [zaa]⟩
 ·intro s_1 σ_5 a_2 hI hp
  rw [I_3_] at hI
  obtain ⟨q_7, q_6⟩ := hI
  try simp [q_7, q_6]
  rcases zad hp with ⟨h_8, hp⟩ | ⟨h_8, hp⟩
  ·try simp at h_8
   obtain ⟨e_9, h_10, hp⟩ := zab hp
   have b_11 := at_lo h_10
   have b_12 := at_hi h_10
   try simp at b_11 b_12
   have c_13 := seg_at' h_10 0 1 (by decide) (ds := [.sc (.int .i64 e_9)]) rfl
   try simp at c_13
   try simp [q_7, q_6, h_8, b_11, b_12, c_13]
   rcases zad hp with ⟨h_14, hp⟩ | ⟨h_14, hp⟩
   ·try simp at h_14
    obtain ⟨_, h_15, hp⟩ := zab hp
    have b_16 := room_ok h_15
    try simp at b_16
    cases hp
    try simp [q_7, q_6, h_8, h_14, b_16]
    refine zah ?_
    rw [I_3_]
    exact ⟨by simp [zac, zaa, q_7, q_6, h_8, h_14, b_16], by simp [zaa, q_7, q_6, h_8, h_14, b_16]⟩
   ·try simp at h_14
    cases hp
    try simp [q_7, q_6, h_8, h_14]
    refine zah ?_
    rw [I_3_]
    exact ⟨by simp [zac, zaa, q_7, q_6, h_8, h_14], by simp [zaa, q_7, q_6, h_8, h_14]⟩
  ·try simp at h_8
   cases hp
   try simp [q_7, q_6, h_8]
   refine zak ?_
   rw [X_4_]
   exact ⟨_, rfl, by simp [zac, zaa, q_7, q_6, h_8], by simp [zaa, q_7, q_6, h_8]⟩
 ·intro out hX
  rw [X_4_] at hX
  obtain ⟨σ_19, rfl, q_21, q_20⟩ := hX
  cases hp
  simp [Goal, FnEnd, q_21, q_20]
theorem pc103 : PC Tryz.prog 103 C103 := pc_of (g := g103) (zai [] rfl trivial) (ent Tryz.func103) fun x y h => w103 h

abbrev G106 (g : Cfg) : Prop := Has Tryz.prog g 106 Tryz.f106 [37, 78, 81] [] [(97, C97)] [(4, [.thaw (.at 11 0) 1176 1]), (6, [.thaw (.at 11 0) 1176 1]), (9, [.thaw (.at 11 0) 1176 1]), (11, [.thaw (.at 11 0) 1176 1]), (13, [.thaw (.at 11 1) 1177 1]), (15, [.thaw (.at 11 1) 1177 1]), (17, [.thaw (.at 11 0) 1176 1]), (2000004, [.frz (.at 11 0)]), (2000006, [.frz (.at 11 0)]), (2000009, [.frz (.at 11 0)]), (2000011, [.frz (.at 11 0)]), (2000013, [.frz (.at 11 1)]), (2000015, [.frz (.at 11 1)]), (2000017, [.frz (.at 11 0)])] [80] [(143, some C143)]
theorem wI106 {g : Cfg} (G : G106 g) {d : Nat} {mem : Mem} (hT : Tight d mem) (hB : ∀ x, (mem x).map (List.map C.killB) = mem x)  {h_ : THeap} {s : TStmt} {own : Int} {a_ : Int} {b_ : Int}  {y} (hp : zam h_ s own a_ b_ = some y) : ∃ r, callo g d 106 [av .shr h_, av .shr s, av .shr own, av .shr a_, av .shr b_] mem = some (r, mem) ∧ ∃ me_0 : Md, r = av me_0 y := by
 have gP := G.P; have gt := G.tk; have gr := G.ro; have gg := G.gh
 have o_143 := G.oc (143, some C143) (by simp)
 have c_97 := G.cs (97, C97) (by simp)
 have hT2 : memKill (fun k => decide (d < k.1)) mem = mem := hT
 have hm0 : ∀ t, mem (d + 1, t) = none := fun t => hT.none (by simp)
 refine start_ex (Tryz.f106.body.getD .skip) [.cell 10 31] G Tryz.func106 (by kernel_rfl) (by simp [Tryz.ntmps106]) rfl ?_
 unfold zam at hp
 obtain ⟨y_1, h_2, hp⟩ := zab hp
 have c_3 := C97_eq h_2
 simp at c_3
 obtain ⟨y_4, h_5, hp⟩ := zab hp
 have c_6 := C97_eq h_5
 simp at c_6
 simp [Tryz.f106, gP, gt, gr, gg, hm0, c_97, o_143, hB, c_3, c_6]
 rcases zad hp with ⟨h_7, hp⟩ | ⟨h_7, hp⟩
 ·try simp at h_7
  try simp [gP, gt, gr, gg, hm0, c_97, o_143, hB, h_7]
  obtain ⟨e_8, h_9, hp⟩ := zab hp
  have b_10 := at_lo h_9
  have b_11 := at_hi h_9
  try simp at b_10 b_11
  have c_12 := splice_row h_9 0 (-1) [(.s (.int .i64 (-1)))] (by simp) rfl
  try simp at c_12
  have l_13 := row_room h_9 0 (m := 1) (by decide)
  try simp at l_13
  cases hp
  simp [Goal, FnEndE, memKill_hi, retR, rsrc, RSrc.val, nodupR, nodup, tupPart, gP, gt, gr, gg, hm0, c_97, o_143, hB, h_7, b_10, b_11, c_12, l_13, hT2]
  all_goals (refine ⟨_, ⟨rfl, kill_back ?_ hT⟩, _, rfl⟩; repeat (first | exact fun k hk => rfl | refine Agree.upd ?_ (by simp) | refine Agree.killK hT ?_ (by simp) | refine Agree.killB hB ?_ | refine Agree.mapK hT ?_ (by simp) | refine Agree.ite ?_ (by simp)))
 ·try simp at h_7
  try simp [gP, gt, gr, gg, hm0, c_97, o_143, hB, h_7]
  rcases zad hp with ⟨h_14, hp⟩ | ⟨h_14, hp⟩
  ·try simp at h_14
   try simp [gP, gt, gr, gg, hm0, c_97, o_143, hB, h_7, h_14]
   obtain ⟨e_15, h_16, hp⟩ := zab hp
   have b_17 := at_lo h_16
   have b_18 := at_hi h_16
   try simp at b_17 b_18
   have c_19 := splice_row h_16 0 (y_4.length : Int) [(.s (.int .i64 (y_4.length : Int)))] (by simp) rfl
   try simp at c_19
   have l_20 := row_room h_16 0 (m := 1) (by decide)
   try simp at l_20
   obtain ⟨_, h_21, hp⟩ := zab hp
   have b_22 := room_ok h_21
   try simp at b_22
   cases hp
   simp [Goal, FnEndE, memKill_hi, retR, rsrc, RSrc.val, nodupR, nodup, tupPart, gP, gt, gr, gg, hm0, c_97, o_143, hB, h_7, h_14, b_17, b_18, c_19, l_20, b_22, hT2]
   all_goals (refine ⟨_, ⟨rfl, kill_back ?_ hT⟩, _, rfl⟩; repeat (first | exact fun k hk => rfl | refine Agree.upd ?_ (by simp) | refine Agree.killK hT ?_ (by simp) | refine Agree.killB hB ?_ | refine Agree.mapK hT ?_ (by simp) | refine Agree.ite ?_ (by simp)))
  ·try simp at h_14
   try simp [gP, gt, gr, gg, hm0, c_97, o_143, hB, h_7, h_14]
   rcases zad hp with ⟨h_23, hp⟩ | ⟨h_23, hp⟩
   ·try simp at h_23
    try simp [gP, gt, gr, gg, hm0, c_97, o_143, hB, h_7, h_14, h_23]
    obtain ⟨e_24, h_25, hp⟩ := zab hp
    have b_26 := at_lo h_25
    have b_27 := at_hi h_25
    try simp at b_26 b_27
    have c_28 := splice_row h_25 0 b_ [(.s (.int .i64 b_))] (by simp) rfl
    try simp at c_28
    have l_29 := row_room h_25 0 (m := 1) (by decide)
    try simp at l_29
    cases hp
    simp [Goal, FnEndE, memKill_hi, retR, rsrc, RSrc.val, nodupR, nodup, tupPart, gP, gt, gr, gg, hm0, c_97, o_143, hB, h_7, h_14, h_23, b_26, b_27, c_28, l_29, hT2]
    all_goals (refine ⟨_, ⟨rfl, kill_back ?_ hT⟩, _, rfl⟩; repeat (first | exact fun k hk => rfl | refine Agree.upd ?_ (by simp) | refine Agree.killK hT ?_ (by simp) | refine Agree.killB hB ?_ | refine Agree.mapK hT ?_ (by simp) | refine Agree.ite ?_ (by simp)))
   ·try simp at h_23
    try simp [gP, gt, gr, gg, hm0, c_97, o_143, hB, h_7, h_14, h_23]
    rcases zad hp with ⟨h_30, hp⟩ | ⟨h_30, hp⟩
    ·try simp at h_30
     try simp [gP, gt, gr, gg, hm0, c_97, o_143, hB, h_7, h_14, h_23, h_30]
     obtain ⟨e_31, h_32, hp⟩ := zab hp
     have b_33 := at_lo h_32
     have b_34 := at_hi h_32
     try simp at b_33 b_34
     have c_35 := seg_at' h_32 0 1 (by decide) (ds := [.sc (.int .i64 e_31)]) rfl
     try simp at c_35
     obtain ⟨e_36, h_37, hp⟩ := zab hp
     have b_38 := at_lo h_37
     have b_39 := at_hi h_37
     try simp at b_38 b_39
     have c_40 := splice_row h_37 0 e_31 [(.s (.int .i64 e_31))] (by simp) rfl
     try simp at c_40
     have l_41 := row_room h_37 0 (m := 1) (by decide)
     try simp at l_41
     cases hp
     simp [Goal, FnEndE, memKill_hi, retR, rsrc, RSrc.val, nodupR, nodup, tupPart, gP, gt, gr, gg, hm0, c_97, o_143, hB, h_7, h_14, h_23, h_30, b_33, b_34, c_35, b_38, b_39, c_40, l_41, hT2]
     all_goals (refine ⟨_, ⟨rfl, kill_back ?_ hT⟩, _, rfl⟩; repeat (first | exact fun k hk => rfl | refine Agree.upd ?_ (by simp) | refine Agree.killK hT ?_ (by simp) | refine Agree.killB hB ?_ | refine Agree.mapK hT ?_ (by simp) | refine Agree.ite ?_ (by simp)))
    ·try simp at h_30
     try simp [gP, gt, gr, gg, hm0, c_97, o_143, hB, h_7, h_14, h_23, h_30]
     rcases zad hp with ⟨h_42, hp⟩ | ⟨h_42, hp⟩
     ·try simp at h_42
      try simp [gP, gt, gr, gg, hm0, c_97, o_143, hB, h_7, h_14, h_23, h_30, h_42]
      obtain ⟨e_43, h_44, hp⟩ := zab hp
      have b_45 := at_lo h_44
      have b_46 := at_hi h_44
      try simp at b_45 b_46
      have c_47 := splice_row h_44 0 (-1) [(.s (.int .i64 (-1)))] (by simp) rfl
      try simp at c_47
      have l_48 := row_room h_44 0 (m := 1) (by decide)
      try simp at l_48
      cases hp
      simp [Goal, FnEndE, memKill_hi, retR, rsrc, RSrc.val, nodupR, nodup, tupPart, gP, gt, gr, gg, hm0, c_97, o_143, hB, h_7, h_14, h_23, h_30, h_42, b_45, b_46, c_47, l_48, hT2]
      all_goals (refine ⟨_, ⟨rfl, kill_back ?_ hT⟩, _, rfl⟩; repeat (first | exact fun k hk => rfl | refine Agree.upd ?_ (by simp) | refine Agree.killK hT ?_ (by simp) | refine Agree.killB hB ?_ | refine Agree.mapK hT ?_ (by simp) | refine Agree.ite ?_ (by simp)))
     ·try simp at h_42
      try simp [gP, gt, gr, gg, hm0, c_97, o_143, hB, h_7, h_14, h_23, h_30, h_42]
      rcases zad hp with ⟨h_49, hp⟩ | ⟨h_49, hp⟩
      ·try simp at h_49
       try simp [gP, gt, gr, gg, hm0, c_97, o_143, hB, h_7, h_14, h_23, h_30, h_42, h_49]
       obtain ⟨e_50, h_51, hp⟩ := zab hp
       have b_52 := at_lo h_51
       have b_53 := at_hi h_51
       try simp at b_52 b_53
       have c_54 := splice_row h_51 0 b_ [(.s (.int .i64 b_))] (by simp) rfl
       try simp at c_54
       have l_55 := row_room h_51 0 (m := 1) (by decide)
       try simp at l_55
       cases hp
       simp [Goal, FnEndE, memKill_hi, retR, rsrc, RSrc.val, nodupR, nodup, tupPart, gP, gt, gr, gg, hm0, c_97, o_143, hB, h_7, h_14, h_23, h_30, h_42, h_49, b_52, b_53, c_54, l_55, hT2]
       all_goals (refine ⟨_, ⟨rfl, kill_back ?_ hT⟩, _, rfl⟩; repeat (first | exact fun k hk => rfl | refine Agree.upd ?_ (by simp) | refine Agree.killK hT ?_ (by simp) | refine Agree.killB hB ?_ | refine Agree.mapK hT ?_ (by simp) | refine Agree.ite ?_ (by simp)))
      ·try simp at h_49
       try simp [gP, gt, gr, gg, hm0, c_97, o_143, hB, h_7, h_14, h_23, h_30, h_42, h_49]
       rcases zad hp with ⟨h_56, hp⟩ | ⟨h_56, hp⟩
       ·try simp at h_56
        try simp [gP, gt, gr, gg, hm0, c_97, o_143, hB, h_7, h_14, h_23, h_30, h_42, h_49, h_56]
        obtain ⟨e_57, h_58, hp⟩ := zab hp
        have b_59 := at_lo h_58
        have b_60 := at_hi h_58
        try simp at b_59 b_60
        have c_61 := splice_row h_58 0 (-1) [(.s (.int .i64 (-1)))] (by simp) rfl
        try simp at c_61
        have l_62 := row_room h_58 0 (m := 1) (by decide)
        try simp at l_62
        obtain ⟨y_65, h_66, hp⟩ := zab hp
        have c_67 := C143_eq h_66
        simp at c_67
        cases hp
        simp [Goal, FnEndE, memKill_hi, retR, rsrc, RSrc.val, nodupR, nodup, tupPart, gP, gt, gr, gg, hm0, c_97, o_143, hB, h_7, h_14, h_23, h_30, h_42, h_49, h_56, b_59, b_60, c_61, l_62, c_67, hT2]
        all_goals (refine ⟨_, ⟨rfl, kill_back ?_ hT⟩, _, rfl⟩; repeat (first | exact fun k hk => rfl | refine Agree.upd ?_ (by simp) | refine Agree.killK hT ?_ (by simp) | refine Agree.killB hB ?_ | refine Agree.mapK hT ?_ (by simp) | refine Agree.ite ?_ (by simp)))
       ·try simp at h_56
        cases hp
        simp [Goal, FnEndE, memKill_hi, retR, rsrc, RSrc.val, nodupR, nodup, tupPart, gP, gt, gr, gg, hm0, c_97, o_143, hB, h_7, h_14, h_23, h_30, h_42, h_49, h_56, hT2]
        all_goals (refine ⟨_, ⟨rfl, kill_back ?_ hT⟩, _, rfl⟩; repeat (first | exact fun k hk => rfl | refine Agree.upd ?_ (by simp) | refine Agree.killK hT ?_ (by simp) | refine Agree.killB hB ?_ | refine Agree.mapK hT ?_ (by simp) | refine Agree.ite ?_ (by simp)))

def C107 : List AV → Option AV := specP (X := THeap × Unit) fun x => impl_HasLeak x.1
theorem C107_eq {h_} {y} (h : impl_HasLeak h_ = some y) : C107 [av .shr h_] = some (Res.res y) := zag (x := (h_, ())) h
def g107 : Cfg := { P := Tryz.prog, take := [], keep := [], gho := [], ctx := [(96, C96)] }
@[simp] theorem g107_s : g107.P = Tryz.prog ∧ g107.ctx = [(96, C96)] ∧ Pl0 g107 := by simp [g107]
theorem w107 {h_} {y} (hp : impl_HasLeak h_ = some y) : ∃ m, callo g107 0 107 [av .shr h_] mem0 = some (Res.res y, m) := by
 refine st0 [.tmp 2] Tryz.func107 ?_
 unfold impl_HasLeak at hp
 obtain ⟨y_1, h_2, hp⟩ := zab hp
 have c_3 := C96_eq h_2
 simp at c_3
 cases hp
 simp [Tryz.f107, Goal, FnEnd, c_3]
theorem pc107 : PC Tryz.prog 107 C107 := pc_of (g := g107) (zai _ g107_s.2.1 ⟨pc96, trivial⟩) (ent Tryz.func107) fun x y h => w107 h

abbrev G144 (g : Cfg) : Prop := Has Tryz.prog g 144 Tryz.f144 [] [] [(142, C142)] []
theorem wI144 {g : Cfg} (G : G144 g) {d : Nat} {mem : Mem} (hT : Tight d mem) {K_1 : Key} {c : Int} {c0 : (List Int)} {mk_1 : Md} (hk_1 : K_1.1 ≤ d) (hb_1 : mem K_1 = some [(.l mk_1 c0.length (encL c0))]) {y} (hp : impl_CanonHeap_1 c c0 = some y) : callo g d 144 [av .shr c, .one (.ptr K_1 0)] mem = some (Res.res y, mem) := by
 have gP := G.P; have gt := G.tk; have gr := G.ro; have gg := G.gh
 have c_142 := G.cs (142, C142) (by simp)
 have hT2 : memKill (fun k => decide (d < k.1)) mem = mem := hT
 have nk_1 : ∀ t, (K_1 = (d + 1, t)) = False := fun t => by simp; intro h; rw [h] at hk_1; simp at hk_1; omega
 refine start_in (Tryz.f144.body.getD .skip) [.tmp 3] G Tryz.func144 (by kernel_rfl) (by simp [Tryz.ntmps144]) rfl ?_
 unfold impl_CanonHeap_1 at hp
 obtain ⟨y_1, h_2, hp⟩ := zab hp
 have c_3 := C142_eq h_2
 simp at c_3
 cases hp
 simp [Tryz.f144, Goal, FnEndI, memKill_hi, gP, gt, gr, gg, c_142, hb_1, nk_1, c_3, hT2]

def C108 : List AV → Option AV := specP (X := THeap × Unit) fun x => impl_CanonHeap x.1
theorem C108_eq {h_} {y} (h : impl_CanonHeap h_ = some y) : C108 [av .shr h_] = some (Res.res y) := zag (x := (h_, ())) h
def g108 : Cfg := { P := Tryz.prog, take := [(108, 26), (108, 41), (108, 53)], keep := [((108, 7), { hd := [1, 2, 3, 4, 5, 19, 20, 21], bx := [], ex := [1, 2, 3, 4, 5], rt := [2] }), ((108, 12), { hd := [1, 2, 4, 5, 34, 35, 36], bx := [], ex := [2, 5], rt := [2] })], gho := [], ctx := [(94, C94), (96, C96), (142, C142)], ro := [(108, 29), (108, 48)] }
@[simp] theorem g108_s : g108.P = Tryz.prog ∧ g108.ctx = [(94, C94), (96, C96), (142, C142)] ∧ g108.take = [(108, 26), (108, 41), (108, 53)] ∧ g108.gho = [] ∧ g108.ro = [(108, 29), (108, 48)] ∧ g108.away = [] ∧ g108.give = [] ∧ g108.octx = [] := by simp [g108]
theorem w108 {h_} {y} (hp : impl_CanonHeap h_ = some y) : ∃ m, callo g108 0 108 [av .shr h_] mem0 = some (Res.res y, m) := by
 have G_144 : G144 g108 := ⟨rfl, by kernel_rfl, rfl, fun t => by simp, noAway (fun t => by simp) (by simp) (fun t => by simp), by simp [lookN], fun i => by simp [lookK], by simp [g108, lookK], by simp⟩
 refine st0 [.cell 2 31] Tryz.func108 ?_
 unfold impl_CanonHeap at hp
 obtain ⟨y_1, h_2, hp⟩ := zab hp
 have c_3 := C94_eq h_2
 simp at c_3
 simp [Tryz.f108, c_3]
 rcases zad hp with ⟨h_4, hp⟩ | ⟨h_4, hp⟩
 ·try simp at h_4
  obtain ⟨y_5, h_6, hp⟩ := zab hp
  have c_7 := C96_eq h_6
  simp at c_7
  try simp [h_4, c_7]
  obtain ⟨r_26, h_27, hp⟩ := zab hp
  obtain ⟨I_10, I_10_⟩ := exV fun (s_8 : Int × (List Int)) (σ : St) => (σ.env 1 = uP (1, 1) ∧ σ.env 2 = uP (1, 2) ∧ σ.env 3 = uP (1, 3) ∧ σ.env 4 = .one (.fn 144 [((1, 3), 0)]) ∧ σ.env 5 = uP (1, 5) ∧ σ.env 19 = uL .shr h_.vars ∧ σ.env 20 = uI (h_.vars.length : Int) ∧ σ.env 21 = uI s_8.1 ∧ σ.mem (1, 1) = some [(.l .shr h_.vars.length (encL h_.vars)), (.l .shr h_.next.length (encL h_.next))] ∧ σ.mem (1, 2) = some [(.l .own 0 []), (.l .own 0 [])] ∧ σ.mem (1, 3) = some [(.l .own y_5.length (encL y_5))] ∧ σ.mem (1, 5) = some [(.l .own s_8.2.length (encL s_8.2)), (.l .own 0 [])]) ∧ Tight (1) σ.mem ∧ NoBox [(1, 1), (1, 2), (1, 3), (1, 5)] σ.mem
  obtain ⟨X_11, X_11_⟩ := exV fun (r_26 : (List Int)) (out : Out) => ∃ σ : St, out = .exit 0 σ ∧ (σ.env 1 = uP (1, 1) ∧ σ.env 2 = uP (1, 2) ∧ σ.env 3 = uP (1, 3) ∧ σ.env 4 = .one (.fn 144 [((1, 3), 0)]) ∧ σ.env 5 = uP (1, 5) ∧ σ.mem (1, 1) = some [(.l .shr h_.vars.length (encL h_.vars)), (.l .shr h_.next.length (encL h_.next))] ∧ σ.mem (1, 2) = some [(.l .own 0 []), (.l .own 0 [])] ∧ σ.mem (1, 3) = some [(.l .own y_5.length (encL y_5))] ∧ σ.mem (1, 5) = some [(.l .own r_26.length (encL r_26)), (.l .own 0 [])]) ∧ Tight (1) σ.mem ∧ NoBox [(1, 1), (1, 2), (1, 3), (1, 5)] σ.mem
  refine loopP ({ hd := [1, 2, 3, 4, 5, 19, 20, 21], bx := [], ex := [1, 2, 3, 4, 5], rt := [2] }) I_10 X_11 h_27 (by exact rfl) ?_ ?_ ?_
  ·rw [I_10_]
   exact ⟨by simp [zac, zaa, h_4], (by repeat (first | exact zaf _ | exact hT.up | exact hT | refine Tight.restrict ?_ | refine Tight.upd ?_ (by simp) (by simp) | refine Tight.killB ?_ | refine zaj ?_)), NoBox.restrict (by intro k hk hb; simp at hk hb; simp [hk, hb, h_4])⟩
  ·intro s_8 σ_12 a_9 hI hp
   rw [I_10_] at hI
   obtain ⟨q_15, ht_13, hn_14⟩ := hI
   try simp [h_4, q_15]
   rcases zad hp with ⟨h_16, hp⟩ | ⟨h_16, hp⟩
   ·try simp at h_16
    obtain ⟨e_17, h_18, hp⟩ := zab hp
    have b_19 := at_lo h_18
    have b_20 := at_hi h_18
    try simp at b_19 b_20
    have c_21 := seg_at' h_18 0 1 (by decide) (ds := [.sc (.int .i64 e_17)]) rfl
    try simp at c_21
    obtain ⟨y_22, h_23, hp⟩ := zab hp
    try simp [h_4, q_15, h_16, b_19, b_20, c_21]
    refine goal_callRo [av .shr e_17, .one (.ptr (1, 3) 0)] (Res.res y_22) (by kernel_rfl) (by simp [h_4, q_15, h_16]) (wI144 (mk_1 := .own) G_144 (by repeat (first | exact ht_13 | exact zaf _ | exact hT.up | exact hT | (simp only [q_15]; done) | refine Tight.upd ?_ (by simp) (by simp) | refine Tight.killB ?_ | refine zaj ?_)) (by simp) (by simp [h_4, q_15, h_16]) h_23) ?_
    obtain ⟨_, h_24, hp⟩ := zab hp
    have b_25 := room_ok h_24
    try simp at b_25
    cases hp
    try simp [h_4, q_15, h_16, b_25]
    refine zah ?_
    rw [I_10_]
    exact ⟨by simp [zac, zaa, h_4, q_15, h_16, b_25], (by repeat (first | exact ht_13 | exact zaf _ | exact hT.up | exact hT | refine Tight.restrict ?_ | refine Tight.upd ?_ (by simp) (by simp) | refine Tight.killB ?_ | refine zaj ?_)), NoBox.restrict (by intro k hk hb; simp at hk hb; simp [hk, hb, h_4, q_15, h_16, b_25, hn_14 k (by simp [hk, hb])])⟩
   ·try simp at h_16
    cases hp
    try simp [h_4, q_15, h_16]
    refine zak ?_
    rw [X_11_]
    exact ⟨_, rfl, by simp [zac, zaa, h_4, q_15, h_16], (by repeat (first | exact ht_13 | exact zaf _ | exact hT.up | exact hT | refine Tight.restrict ?_ | refine Tight.upd ?_ (by simp) (by simp) | refine Tight.killB ?_ | refine zaj ?_)), NoBox.restrict (by intro k hk hb; simp at hk hb; simp [hk, hb, h_4, q_15, h_16, hn_14 k (by simp [hk, hb])])⟩
  ·intro out hX
   rw [X_11_] at hX
   obtain ⟨σ_28, rfl, q_31, ht_29, hn_30⟩ := hX
   try simp [h_4, q_31]
   obtain ⟨r_55, h_56, hp⟩ := zab hp
   obtain ⟨I_34, I_34_⟩ := exV fun (s_32 : Int × (List Int)) (σ : St) => (σ.env 1 = uP (1, 1) ∧ σ.env 2 = uP (1, 2) ∧ σ.env 4 = .one (.fn 144 [((1, 3), 0)]) ∧ σ.env 5 = uP (1, 5) ∧ σ.env 34 = uL .bor y_5 ∧ σ.env 35 = uI (y_5.length : Int) ∧ σ.env 36 = uI s_32.1 ∧ σ.mem (1, 1) = some [(.l .shr h_.vars.length (encL h_.vars)), (.l .shr h_.next.length (encL h_.next))] ∧ σ.mem (1, 2) = some [(.l .own 0 []), (.l .own 0 [])] ∧ σ.mem (1, 3) = some [(.l .own y_5.length (encL y_5))] ∧ σ.mem (1, 5) = some [(.l .own r_26.length (encL r_26)), (.l .own s_32.2.length (encL s_32.2))]) ∧ Tight (1) σ.mem ∧ NoBox [(1, 1), (1, 2), (1, 3), (1, 5)] σ.mem
   obtain ⟨X_35, X_35_⟩ := exV fun (r_55 : (List Int)) (out : Out) => ∃ σ : St, out = .exit 2 σ ∧ (σ.env 2 = uP (1, 2) ∧ σ.env 5 = uP (1, 5) ∧ σ.mem (1, 1) = some [(.l .shr h_.vars.length (encL h_.vars)), (.l .shr h_.next.length (encL h_.next))] ∧ σ.mem (1, 2) = some [(.l .own 0 []), (.l .own 0 [])] ∧ σ.mem (1, 3) = some [(.l .own y_5.length (encL y_5))] ∧ σ.mem (1, 5) = some [(.l .own r_26.length (encL r_26)), (.l .own r_55.length (encL r_55))]) ∧ Tight (1) σ.mem ∧ NoBox [(1, 1), (1, 2), (1, 3), (1, 5)] σ.mem
   refine loopP ({ hd := [1, 2, 4, 5, 34, 35, 36], bx := [], ex := [2, 5], rt := [2] }) I_34 X_35 h_56 (by exact rfl) ?_ ?_ ?_
   ·rw [I_34_]
    exact ⟨by simp [zac, zaa, h_4, q_31], (by repeat (first | exact ht_29 | exact zaf _ | exact hT.up | exact hT | refine Tight.restrict ?_ | refine Tight.upd ?_ (by simp) (by simp) | refine Tight.killB ?_ | refine zaj ?_)), NoBox.restrict (by intro k hk hb; simp at hk hb; simp [hk, hb, h_4, q_31, hn_30 k (by simp [hk, hb])])⟩
   ·intro s_32 σ_36 a_33 hI hp
    rw [I_34_] at hI
    obtain ⟨q_39, ht_37, hn_38⟩ := hI
    try simp [h_4, q_39]
    rcases zad hp with ⟨h_40, hp⟩ | ⟨h_40, hp⟩
    ·try simp at h_40
     obtain ⟨e_41, h_42, hp⟩ := zab hp
     have b_43 := at_lo h_42
     have b_44 := at_hi h_42
     try simp at b_43 b_44
     have c_45 := seg_at' h_42 0 1 (by decide) (ds := [.sc (.int .i64 e_41)]) rfl
     try simp at c_45
     obtain ⟨e_46, h_47, hp⟩ := zab hp
     have b_48 := at_lo h_47
     have b_49 := at_hi h_47
     try simp at b_48 b_49
     have c_50 := seg_at' h_47 0 1 (by decide) (ds := [.sc (.int .i64 e_46)]) rfl
     try simp at c_50
     obtain ⟨y_51, h_52, hp⟩ := zab hp
     try simp [h_4, q_39, h_40, b_43, b_44, c_45, b_48, b_49, c_50]
     refine goal_callRo [av .shr e_46, .one (.ptr (1, 3) 0)] (Res.res y_51) (by kernel_rfl) (by simp [h_4, q_39, h_40]) (wI144 (mk_1 := .own) G_144 (by repeat (first | exact ht_37 | exact zaf _ | exact hT.up | exact hT | (simp only [q_39]; done) | refine Tight.upd ?_ (by simp) (by simp) | refine Tight.killB ?_ | refine zaj ?_)) (by simp) (by simp [h_4, q_39, h_40]) h_52) ?_
     obtain ⟨_, h_53, hp⟩ := zab hp
     have b_54 := room_ok h_53
     try simp at b_54
     cases hp
     try simp [h_4, q_39, h_40, b_54]
     refine zah ?_
     rw [I_34_]
     exact ⟨by simp [zac, zaa, h_4, q_39, h_40, b_54], (by repeat (first | exact ht_37 | exact zaf _ | exact hT.up | exact hT | refine Tight.restrict ?_ | refine Tight.upd ?_ (by simp) (by simp) | refine Tight.killB ?_ | refine zaj ?_)), NoBox.restrict (by intro k hk hb; simp at hk hb; simp [hk, hb, h_4, q_39, h_40, b_54, hn_38 k (by simp [hk, hb])])⟩
    ·try simp at h_40
     cases hp
     try simp [h_4, q_39, h_40]
     refine zak ?_
     rw [X_35_]
     exact ⟨_, rfl, by simp [zac, zaa, h_4, q_39, h_40], (by repeat (first | exact ht_37 | exact zaf _ | exact hT.up | exact hT | refine Tight.restrict ?_ | refine Tight.upd ?_ (by simp) (by simp) | refine Tight.killB ?_ | refine zaj ?_)), NoBox.restrict (by intro k hk hb; simp at hk hb; simp [hk, hb, h_4, q_39, h_40, hn_38 k (by simp [hk, hb])])⟩
   ·intro out hX
    rw [X_35_] at hX
    obtain ⟨σ_57, rfl, q_60, ht_58, hn_59⟩ := hX
    cases hp
    simp [Goal, FnEnd, retR, rsrc, RSrc.val, nodupR, nodup, tupPart, h_4, q_60]
 ·try simp at h_4
  cases hp
  simp [Goal, FnEnd, retR, rsrc, RSrc.val, nodupR, nodup, tupPart, h_4]
theorem pc108 : PC Tryz.prog 108 C108 := pc_of (g := g108) (zai _ g108_s.2.1 ⟨pc94, pc96, pc142, trivial⟩) (ent Tryz.func108) fun x y h => w108 h

def C57 : List AV → Option AV := specP (X := (List ByteArray) × TStmt × THeap × Unit) fun x => impl_Exec x.1 x.2.1 x.2.2.1
theorem C57_eq {vars s h_} {y} (h : impl_Exec vars s h_ = some y) : C57 [av .shr vars, av .shr s, av .shr h_] = some (Res.res y) := zag (x := (vars, s, h_, ())) h
def g57 : Cfg := { P := Tryz.prog, take := [(57, 40), (106, 37), (106, 78), (106, 81)], keep := [], gho := [((106, 4), [.thaw (.at 11 0) 1176 1]), ((106, 6), [.thaw (.at 11 0) 1176 1]), ((106, 9), [.thaw (.at 11 0) 1176 1]), ((106, 11), [.thaw (.at 11 0) 1176 1]), ((106, 13), [.thaw (.at 11 1) 1177 1]), ((106, 15), [.thaw (.at 11 1) 1177 1]), ((106, 17), [.thaw (.at 11 0) 1176 1]), ((106, 2000004), [.frz (.at 11 0)]), ((106, 2000006), [.frz (.at 11 0)]), ((106, 2000009), [.frz (.at 11 0)]), ((106, 2000011), [.frz (.at 11 0)]), ((106, 2000013), [.frz (.at 11 1)]), ((106, 2000015), [.frz (.at 11 1)]), ((106, 2000017), [.frz (.at 11 0)])], ctx := [(54, C54), (93, C93), (97, C97), (98, C98), (99, C99), (100, C100), (101, C101), (102, C102), (103, C103), (104, C104), (105, C105), (107, C107), (108, C108)], give := [(106, 80)], octx := [(143, C143)] }
@[simp] theorem g57_s : g57.P = Tryz.prog ∧ g57.ctx = [(54, C54), (93, C93), (97, C97), (98, C98), (99, C99), (100, C100), (101, C101), (102, C102), (103, C103), (104, C104), (105, C105), (107, C107), (108, C108)] ∧ g57.take = [(57, 40), (106, 37), (106, 78), (106, 81)] ∧ g57.gho = [((106, 4), [.thaw (.at 11 0) 1176 1]), ((106, 6), [.thaw (.at 11 0) 1176 1]), ((106, 9), [.thaw (.at 11 0) 1176 1]), ((106, 11), [.thaw (.at 11 0) 1176 1]), ((106, 13), [.thaw (.at 11 1) 1177 1]), ((106, 15), [.thaw (.at 11 1) 1177 1]), ((106, 17), [.thaw (.at 11 0) 1176 1]), ((106, 2000004), [.frz (.at 11 0)]), ((106, 2000006), [.frz (.at 11 0)]), ((106, 2000009), [.frz (.at 11 0)]), ((106, 2000011), [.frz (.at 11 0)]), ((106, 2000013), [.frz (.at 11 1)]), ((106, 2000015), [.frz (.at 11 1)]), ((106, 2000017), [.frz (.at 11 0)])] ∧ g57.ro = [] ∧ g57.away = [] ∧ g57.give = [(106, 80)] ∧ g57.octx = [(143, C143)] := by simp [g57]
theorem kj57 {g : Cfg} {d f : Nat} (id : Nat) (ops : Array Oper) (draw : Bool) (K : List It) (σ : St) (h : [1, 5, 7, 9, 11, 13].contains id = false) : evk g d f (.region id ops draw) K σ = ghoK g d f ((lookK (f, id) g.gho).getD []) ops (behK ((lookK (f, behind id) g.gho).getD []) K) σ := k_regionS id ops draw K σ h
theorem w57 {vars s h_} {y} (hp : impl_Exec vars s h_ = some y) : ∃ m, callo g57 0 57 [av .shr vars, av .shr s, av .shr h_] mem0 = some (Res.res y, m) := by
 have G_106 : G106 g57 := ⟨rfl, by kernel_rfl, rfl, fun t => by simp, noAway (fun t => by simp) (by simp) (fun t => by simp), by simp [lookN], fun i => by simp [lookK], by simp [g57, lookK], by simp⟩
 refine st0 [.cell 6 31, .tmp 7] Tryz.func57 ?_
 unfold impl_Exec at hp
 simp [Tryz.f57, -zae, kj57]
 obtain ⟨r_1, h_2, hp⟩ := zab hp
 refine joinP (J := fun (σ : St) => (σ.env 0 = uL .shr vars ∧ σ.env 4 = uP (1, 4) ∧ σ.env 5 = uP (1, 5) ∧ σ.env 6 = uP (1, 6) ∧ σ.env 24 = uB r_1 ∧ σ.mem (1, 4) = some [(.s (.int .i64 s.kind)), (.s (.string s.a)), (.s (.string s.b))] ∧ σ.mem (1, 5) = some [(.l .shr h_.vars.length (encL h_.vars)), (.l .shr h_.next.length (encL h_.next))] ∧ σ.mem (1, 6) = some [(.l .own 0 []), (.l .own 0 [])]) ∧ Tight (1) σ.mem ∧ NoBox [(1, 4), (1, 5), (1, 6)] σ.mem) ?_ ?_
 ·replace hp := h_2
  rw [zae]
  obtain ⟨y_7, h_8, hp⟩ := zab hp
  have c_9 := C93_eq h_8
  simp at c_9
  try simp [-zae, kj57, c_9]
  rcases zad hp with ⟨h_10, hp⟩ | ⟨h_10, hp⟩
  ·try simp at h_10
   obtain ⟨y_11, h_12, hp⟩ := zab hp
   have c_13 := C54_eq h_12
   simp at c_13
   cases hp
   try simp [-zae, kj57, h_10, c_13]
   refine goal_join ?_
   exact ⟨by simp [zac, zaa, -zae, kj57, h_10, c_13], (by repeat (first | exact zaf _ | exact hT.up | exact hT | (simp only [true_and]; done) | refine Tight.upd ?_ (by simp) (by simp) | refine Tight.killB ?_ | refine zaj ?_)), (by intro k hk; simp at hk; simp [hk, -zae, kj57, h_10, c_13])⟩
  ·try simp at h_10
   cases hp
   try simp [-zae, kj57, h_10]
   refine goal_join ?_
   exact ⟨by simp [zac, zaa, -zae, kj57, h_10], (by repeat (first | exact zaf _ | exact hT.up | exact hT | (simp only [true_and]; done) | refine Tight.upd ?_ (by simp) (by simp) | refine Tight.killB ?_ | refine zaj ?_)), (by intro k hk; simp at hk; simp [hk, -zae, kj57, h_10])⟩
 ·intro σ_3 hJ
  obtain ⟨q_6, ht_4, hn_5⟩ := hJ
  try simp [-zae, kj57, q_6]
  rcases zad hp with ⟨h_14, hp⟩ | ⟨h_14, hp⟩
  ·try simp at h_14
   cases hp
   simp [Goal, FnEnd, retR, rsrc, RSrc.val, nodupR, nodup, tupPart, -zae, kj57, q_6, h_14]
  ·try simp at h_14
   obtain ⟨y_15, h_16, hp⟩ := zab hp
   have c_17 := C98_eq h_16
   simp at c_17
   obtain ⟨y_18, h_19, hp⟩ := zab hp
   have c_20 := C99_eq h_19
   simp at c_20
   obtain ⟨y_21, h_22, hp⟩ := zab hp
   have c_23 := C99_eq h_22
   simp at c_23
   obtain ⟨y_24, h_25, hp⟩ := zab hp
   have c_26 := C100_eq h_25
   simp at c_26
   try simp [-zae, kj57, q_6, h_14, c_17, c_20, c_23, c_26]
   obtain ⟨r_27, h_28, hp⟩ := zab hp
   refine joinP (J := fun (σ : St) => (σ.env 4 = uP (1, 4) ∧ σ.env 5 = uP (1, 5) ∧ σ.env 6 = uP (1, 6) ∧ σ.env 8 = uI y_15 ∧ σ.env 9 = uI y_18 ∧ σ.env 10 = uI y_21 ∧ σ.env 11 = uI y_24.1 ∧ σ.env 12 = uB y_24.2 ∧ σ.env 48 = uB r_27 ∧ σ.mem (1, 4) = some [(.s (.int .i64 s.kind)), (.s (.string s.a)), (.s (.string s.b))] ∧ σ.mem (1, 5) = some [(.l .shr h_.vars.length (encL h_.vars)), (.l .shr h_.next.length (encL h_.next))] ∧ σ.mem (1, 6) = some [(.l .own 0 []), (.l .own 0 [])]) ∧ Tight (1) σ.mem ∧ NoBox [(1, 4), (1, 5), (1, 6)] σ.mem) ?_ ?_
   ·replace hp := h_28
    rw [zae]
    obtain ⟨y_33, h_34, hp⟩ := zab hp
    have c_35 := C101_eq h_34
    simp at c_35
    try simp [-zae, kj57, q_6, h_14, c_17, c_20, c_23, c_26, c_35]
    rcases zad hp with ⟨h_36, hp⟩ | ⟨h_36, hp⟩
    ·try simp at h_36
     obtain ⟨y_37, h_38, hp⟩ := zab hp
     have c_39 := C102_eq h_38
     simp at c_39
     cases hp
     try simp [-zae, kj57, q_6, h_14, h_36, c_39]
     refine goal_join ?_
     exact ⟨by simp [zac, zaa, -zae, kj57, q_6, h_14, h_36, c_39], (by repeat (first | exact ht_4 | exact zaf _ | exact hT.up | exact hT | (simp only [q_6]; done) | refine Tight.upd ?_ (by simp) (by simp) | refine Tight.killB ?_ | refine zaj ?_)), (by intro k hk; simp at hk; simp [hk, -zae, kj57, q_6, h_14, h_36, c_39, hn_5 k (by simp [hk])])⟩
    ·try simp at h_36
     cases hp
     try simp [-zae, kj57, q_6, h_14, h_36]
     refine goal_join ?_
     exact ⟨by simp [zac, zaa, -zae, kj57, q_6, h_14, h_36], (by repeat (first | exact ht_4 | exact zaf _ | exact hT.up | exact hT | (simp only [q_6]; done) | refine Tight.upd ?_ (by simp) (by simp) | refine Tight.killB ?_ | refine zaj ?_)), (by intro k hk; simp at hk; simp [hk, -zae, kj57, q_6, h_14, h_36, hn_5 k (by simp [hk])])⟩
   ·intro σ_29 hJ
    obtain ⟨q_32, ht_30, hn_31⟩ := hJ
    try simp [-zae, kj57, h_14, q_32]
    rcases zad hp with ⟨h_40, hp⟩ | ⟨h_40, hp⟩
    ·try simp at h_40
     cases hp
     simp [Goal, FnEnd, retR, rsrc, RSrc.val, nodupR, nodup, tupPart, -zae, kj57, h_14, q_32, h_40]
    ·try simp at h_40
     try simp [-zae, kj57, h_14, q_32, h_40]
     obtain ⟨r_41, h_42, hp⟩ := zab hp
     refine joinP (J := fun (σ : St) => (σ.env 4 = uP (1, 4) ∧ σ.env 5 = uP (1, 5) ∧ σ.env 6 = uP (1, 6) ∧ σ.env 8 = uI y_15 ∧ σ.env 9 = uI y_18 ∧ σ.env 10 = uI y_21 ∧ σ.env 60 = uB r_41 ∧ σ.mem (1, 4) = some [(.s (.int .i64 s.kind)), (.s (.string s.a)), (.s (.string s.b))] ∧ σ.mem (1, 5) = some [(.l .shr h_.vars.length (encL h_.vars)), (.l .shr h_.next.length (encL h_.next))] ∧ σ.mem (1, 6) = some [(.l .own 0 []), (.l .own 0 [])]) ∧ Tight (1) σ.mem ∧ NoBox [(1, 4), (1, 5), (1, 6)] σ.mem) ?_ ?_
     ·replace hp := h_42
      rw [zae]
      try simp [-zae, kj57, h_14, q_32, h_40]
      rcases zad hp with ⟨h_47, hp⟩ | ⟨h_47, hp⟩
      ·try simp at h_47
       cases hp
       try simp [-zae, kj57, h_14, q_32, h_40, h_47]
       refine goal_join ?_
       exact ⟨by simp [zac, zaa, -zae, kj57, h_14, q_32, h_40, h_47], (by repeat (first | exact ht_30 | exact zaf _ | exact hT.up | exact hT | (simp only [q_32]; done) | refine Tight.upd ?_ (by simp) (by simp) | refine Tight.killB ?_ | refine zaj ?_)), (by intro k hk; simp at hk; simp [hk, -zae, kj57, h_14, q_32, h_40, h_47, hn_31 k (by simp [hk])])⟩
      ·try simp at h_47
       cases hp
       try simp [-zae, kj57, h_14, q_32, h_40, h_47]
       refine goal_join ?_
       exact ⟨by simp [zac, zaa, -zae, kj57, h_14, q_32, h_40, h_47], (by repeat (first | exact ht_30 | exact zaf _ | exact hT.up | exact hT | (simp only [q_32]; done) | refine Tight.upd ?_ (by simp) (by simp) | refine Tight.killB ?_ | refine zaj ?_)), (by intro k hk; simp at hk; simp [hk, -zae, kj57, h_14, q_32, h_40, h_47, hn_31 k (by simp [hk])])⟩
     ·intro σ_43 hJ
      obtain ⟨q_46, ht_44, hn_45⟩ := hJ
      try simp [-zae, kj57, h_14, h_40, q_46]
      rcases zad hp with ⟨h_48, hp⟩ | ⟨h_48, hp⟩
      ·try simp at h_48
       cases hp
       simp [Goal, FnEnd, retR, rsrc, RSrc.val, nodupR, nodup, tupPart, -zae, kj57, h_14, h_40, q_46, h_48]
      ·try simp at h_48
       try simp [-zae, kj57, h_14, h_40, q_46, h_48]
       obtain ⟨r_49, h_50, hp⟩ := zab hp
       refine joinP (J := fun (σ : St) => (σ.env 4 = uP (1, 4) ∧ σ.env 5 = uP (1, 5) ∧ σ.env 6 = uP (1, 6) ∧ σ.env 8 = uI y_15 ∧ σ.env 9 = uI y_18 ∧ σ.env 10 = uI y_21 ∧ σ.env 67 = uB r_49 ∧ σ.mem (1, 4) = some [(.s (.int .i64 s.kind)), (.s (.string s.a)), (.s (.string s.b))] ∧ σ.mem (1, 5) = some [(.l .shr h_.vars.length (encL h_.vars)), (.l .shr h_.next.length (encL h_.next))] ∧ σ.mem (1, 6) = some [(.l .own 0 []), (.l .own 0 [])]) ∧ Tight (1) σ.mem ∧ NoBox [(1, 4), (1, 5), (1, 6)] σ.mem) ?_ ?_
       ·replace hp := h_50
        rw [zae]
        try simp [-zae, kj57, h_14, h_40, q_46, h_48]
        rcases zad hp with ⟨h_55, hp⟩ | ⟨h_55, hp⟩
        ·try simp at h_55
         cases hp
         try simp [-zae, kj57, h_14, h_40, q_46, h_48, h_55]
         refine goal_join ?_
         exact ⟨by simp [zac, zaa, -zae, kj57, h_14, h_40, q_46, h_48, h_55], (by repeat (first | exact ht_44 | exact zaf _ | exact hT.up | exact hT | (simp only [q_46]; done) | refine Tight.upd ?_ (by simp) (by simp) | refine Tight.killB ?_ | refine zaj ?_)), (by intro k hk; simp at hk; simp [hk, -zae, kj57, h_14, h_40, q_46, h_48, h_55, hn_45 k (by simp [hk])])⟩
        ·try simp at h_55
         cases hp
         try simp [-zae, kj57, h_14, h_40, q_46, h_48, h_55]
         refine goal_join ?_
         exact ⟨by simp [zac, zaa, -zae, kj57, h_14, h_40, q_46, h_48, h_55], (by repeat (first | exact ht_44 | exact zaf _ | exact hT.up | exact hT | (simp only [q_46]; done) | refine Tight.upd ?_ (by simp) (by simp) | refine Tight.killB ?_ | refine zaj ?_)), (by intro k hk; simp at hk; simp [hk, -zae, kj57, h_14, h_40, q_46, h_48, h_55, hn_45 k (by simp [hk])])⟩
       ·intro σ_51 hJ
        obtain ⟨q_54, ht_52, hn_53⟩ := hJ
        try simp [-zae, kj57, h_14, h_40, h_48, q_54]
        rcases zad hp with ⟨h_56, hp⟩ | ⟨h_56, hp⟩
        ·try simp at h_56
         cases hp
         simp [Goal, FnEnd, retR, rsrc, RSrc.val, nodupR, nodup, tupPart, -zae, kj57, h_14, h_40, h_48, q_54, h_56]
        ·try simp at h_56
         try simp [-zae, kj57, h_14, h_40, h_48, q_54, h_56]
         obtain ⟨r_57, h_58, hp⟩ := zab hp
         refine joinP (J := fun (σ : St) => (σ.env 4 = uP (1, 4) ∧ σ.env 5 = uP (1, 5) ∧ σ.env 6 = uP (1, 6) ∧ σ.env 8 = uI y_15 ∧ σ.env 9 = uI y_18 ∧ σ.env 10 = uI y_21 ∧ σ.env 78 = uB r_57 ∧ σ.mem (1, 4) = some [(.s (.int .i64 s.kind)), (.s (.string s.a)), (.s (.string s.b))] ∧ σ.mem (1, 5) = some [(.l .shr h_.vars.length (encL h_.vars)), (.l .shr h_.next.length (encL h_.next))] ∧ σ.mem (1, 6) = some [(.l .own 0 []), (.l .own 0 [])]) ∧ Tight (1) σ.mem ∧ NoBox [(1, 4), (1, 5), (1, 6)] σ.mem) ?_ ?_
         ·replace hp := h_58
          rw [zae]
          try simp [-zae, kj57, h_14, h_40, h_48, q_54, h_56]
          rcases zad hp with ⟨h_63, hp⟩ | ⟨h_63, hp⟩
          ·try simp at h_63
           obtain ⟨y_64, h_65, hp⟩ := zab hp
           have c_66 := C103_eq h_65
           simp at c_66
           try simp [-zae, kj57, h_14, h_40, h_48, q_54, h_56, h_63, c_66]
           rcases zad hp with ⟨h_67, hp⟩ | ⟨h_67, hp⟩
           ·try simp at h_67
            cases hp
            try simp [-zae, kj57, h_14, h_40, h_48, q_54, h_56, h_63, h_67]
            refine goal_join ?_
            exact ⟨by simp [zac, zaa, -zae, kj57, h_14, h_40, h_48, q_54, h_56, h_63, h_67], (by repeat (first | exact ht_52 | exact zaf _ | exact hT.up | exact hT | (simp only [q_54]; done) | refine Tight.upd ?_ (by simp) (by simp) | refine Tight.killB ?_ | refine zaj ?_)), (by intro k hk; simp at hk; simp [hk, -zae, kj57, h_14, h_40, h_48, q_54, h_56, h_63, h_67, hn_53 k (by simp [hk])])⟩
           ·try simp at h_67
            obtain ⟨y_68, h_69, hp⟩ := zab hp
            have c_70 := C104_eq h_69
            simp at c_70
            cases hp
            try simp [-zae, kj57, h_14, h_40, h_48, q_54, h_56, h_63, h_67, c_70]
            refine goal_join ?_
            exact ⟨by simp [zac, zaa, -zae, kj57, h_14, h_40, h_48, q_54, h_56, h_63, h_67, c_70], (by repeat (first | exact ht_52 | exact zaf _ | exact hT.up | exact hT | (simp only [q_54]; done) | refine Tight.upd ?_ (by simp) (by simp) | refine Tight.killB ?_ | refine zaj ?_)), (by intro k hk; simp at hk; simp [hk, -zae, kj57, h_14, h_40, h_48, q_54, h_56, h_63, h_67, c_70, hn_53 k (by simp [hk])])⟩
          ·try simp at h_63
           cases hp
           try simp [-zae, kj57, h_14, h_40, h_48, q_54, h_56, h_63]
           refine goal_join ?_
           exact ⟨by simp [zac, zaa, -zae, kj57, h_14, h_40, h_48, q_54, h_56, h_63], (by repeat (first | exact ht_52 | exact zaf _ | exact hT.up | exact hT | (simp only [q_54]; done) | refine Tight.upd ?_ (by simp) (by simp) | refine Tight.killB ?_ | refine zaj ?_)), (by intro k hk; simp at hk; simp [hk, -zae, kj57, h_14, h_40, h_48, q_54, h_56, h_63, hn_53 k (by simp [hk])])⟩
         ·intro σ_59 hJ
          obtain ⟨q_62, ht_60, hn_61⟩ := hJ
          try simp [-zae, kj57, h_14, h_40, h_48, h_56, q_62]
          rcases zad hp with ⟨h_71, hp⟩ | ⟨h_71, hp⟩
          ·try simp at h_71
           cases hp
           simp [Goal, FnEnd, retR, rsrc, RSrc.val, nodupR, nodup, tupPart, -zae, kj57, h_14, h_40, h_48, h_56, q_62, h_71]
          ·try simp at h_71
           try simp [-zae, kj57, h_14, h_40, h_48, h_56, q_62, h_71]
           obtain ⟨r_72, h_73, hp⟩ := zab hp
           refine joinP (J := fun (σ : St) => (σ.env 4 = uP (1, 4) ∧ σ.env 5 = uP (1, 5) ∧ σ.env 6 = uP (1, 6) ∧ σ.env 8 = uI y_15 ∧ σ.env 9 = uI y_18 ∧ σ.env 10 = uI y_21 ∧ σ.env 97 = uB r_72 ∧ σ.mem (1, 4) = some [(.s (.int .i64 s.kind)), (.s (.string s.a)), (.s (.string s.b))] ∧ σ.mem (1, 5) = some [(.l .shr h_.vars.length (encL h_.vars)), (.l .shr h_.next.length (encL h_.next))] ∧ σ.mem (1, 6) = some [(.l .own 0 []), (.l .own 0 [])]) ∧ Tight (1) σ.mem ∧ NoBox [(1, 4), (1, 5), (1, 6)] σ.mem) ?_ ?_
           ·replace hp := h_73
            rw [zae]
            try simp [-zae, kj57, h_14, h_40, h_48, h_56, q_62, h_71]
            rcases zad hp with ⟨h_78, hp⟩ | ⟨h_78, hp⟩
            ·try simp at h_78
             obtain ⟨y_79, h_80, hp⟩ := zab hp
             have c_81 := C105_eq h_80
             simp at c_81
             obtain ⟨y_82, h_83, hp⟩ := zab hp
             have c_84 := C104_eq h_83
             simp at c_84
             cases hp
             try simp [-zae, kj57, h_14, h_40, h_48, h_56, q_62, h_71, h_78, c_81, c_84]
             refine goal_join ?_
             exact ⟨by simp [zac, zaa, -zae, kj57, h_14, h_40, h_48, h_56, q_62, h_71, h_78, c_81, c_84], (by repeat (first | exact ht_60 | exact zaf _ | exact hT.up | exact hT | (simp only [q_62]; done) | refine Tight.upd ?_ (by simp) (by simp) | refine Tight.killB ?_ | refine zaj ?_)), (by intro k hk; simp at hk; simp [hk, -zae, kj57, h_14, h_40, h_48, h_56, q_62, h_71, h_78, c_81, c_84, hn_61 k (by simp [hk])])⟩
            ·try simp at h_78
             cases hp
             try simp [-zae, kj57, h_14, h_40, h_48, h_56, q_62, h_71, h_78]
             refine goal_join ?_
             exact ⟨by simp [zac, zaa, -zae, kj57, h_14, h_40, h_48, h_56, q_62, h_71, h_78], (by repeat (first | exact ht_60 | exact zaf _ | exact hT.up | exact hT | (simp only [q_62]; done) | refine Tight.upd ?_ (by simp) (by simp) | refine Tight.killB ?_ | refine zaj ?_)), (by intro k hk; simp at hk; simp [hk, -zae, kj57, h_14, h_40, h_48, h_56, q_62, h_71, h_78, hn_61 k (by simp [hk])])⟩
           ·intro σ_74 hJ
            obtain ⟨q_77, ht_75, hn_76⟩ := hJ
            try simp [-zae, kj57, h_14, h_40, h_48, h_56, h_71, q_77]
            rcases zad hp with ⟨h_85, hp⟩ | ⟨h_85, hp⟩
            ·try simp at h_85
             cases hp
             simp [Goal, FnEnd, retR, rsrc, RSrc.val, nodupR, nodup, tupPart, -zae, kj57, h_14, h_40, h_48, h_56, h_71, q_77, h_85]
            ·try simp at h_85
             obtain ⟨y_86, h_87, hp⟩ := zab hp
             try simp [-zae, kj57, h_14, h_40, h_48, h_56, h_71, q_77, h_85]
             refine goal_callE [av .shr h_, av .shr s, av .shr y_15, av .shr y_18, av .shr y_21] (fun r => ∃ me_88 : Md, r = av me_88 y_86) (by simp [-zae, kj57, h_14, h_40, h_48, h_56, h_71, q_77, h_85]) (wI106 G_106 (by repeat (first | exact ht_75 | exact zaf _ | exact hT.up | exact hT | (simp only [q_77]; done) | refine Tight.upd ?_ (by simp) (by simp) | refine Tight.killB ?_ | refine zaj ?_)) (killB_keys (L := [(1, 4), (1, 5), (1, 6)]) (by intro k hk; simp at hk; simp [hk, -zae, kj57, h_14, h_40, h_48, h_56, h_71, q_77, h_85, hn_76 k (by simp [hk])]) (by simp [-zae, kj57, h_14, h_40, h_48, h_56, h_71, q_77, h_85])) h_87) ?_
             rintro _ ⟨me_88, rfl⟩
             have n_89 := hn_76 (1, 13) (by simp)
             obtain ⟨y_90, h_91, hp⟩ := zab hp
             have c_92 := C107_eq h_91
             simp at c_92
             try simp [-zae, kj57, h_14, h_40, h_48, h_56, h_71, q_77, h_85, n_89, c_92]
             rcases zad hp with ⟨h_93, hp⟩ | ⟨h_93, hp⟩
             ·try simp at h_93
              cases hp
              simp [Goal, FnEnd, retR, rsrc, RSrc.val, nodupR, nodup, tupPart, -zae, kj57, h_14, h_40, h_48, h_56, h_71, q_77, h_85, h_93]
             ·try simp at h_93
              obtain ⟨y_94, h_95, hp⟩ := zab hp
              have c_96 := C108_eq h_95
              simp at c_96
              cases hp
              simp [Goal, FnEnd, retR, rsrc, RSrc.val, nodupR, nodup, tupPart, -zae, kj57, h_14, h_40, h_48, h_56, h_71, q_77, h_85, h_93, c_96]
theorem pc57 : PC Tryz.prog 57 C57 := pc_of (g := g57) (ctxOK_ofO [(54, C54), (93, C93), (97, C97), (98, C98), (99, C99), (100, C100), (101, C101), (102, C102), (103, C103), (104, C104), (105, C105), (107, C107), (108, C108)] rfl ⟨pc54, pc93, pc97, pc98, pc99, pc100, pc101, pc102, pc103, pc104, pc105, pc107, pc108, trivial⟩ [(143, C143)] rfl ⟨po143, trivial⟩) (ent Tryz.func57) fun x y h => w57 h

abbrev G147 (g : Cfg) : Prop := Has Tryz.prog g 147 Tryz.f147 [] [(2, { hd := [0, 1, 7, 8], bx := [], ex := [], rt := [4] })] [] []
theorem wI147 {g : Cfg} (G : G147 g) {d : Nat} {mem : Mem} (hT : Tight d mem)  {s : (List THeap)} {f_ : (THeap → Option (Bool))} {m_0 : Md} (hm_0 : LentM m_0) {fk_f_ : Nat} {caps_f_ : List (Key × Nat)} (hl_f_ : ∀ c ∈ caps_f_, c.1.1 ≤ d) (hc_f_ : Clo g d mem fk_f_ caps_f_ fun x : THeap × Unit => f_ x.1) {y} (hp : slices_IndexFunc_Heap s f_ = some y) : callo g d 147 [av m_0 s, .one (.fn fk_f_ caps_f_)] mem = some (Res.res y, mem) := by
 have gP := G.P; have gt := G.tk; have gr := G.ro; have gg := G.gh
 have k_2 := G.kp (2, { hd := [0, 1, 7, 8], bx := [], ex := [], rt := [4] }) (by simp)
 have hT2 : memKill (fun k => decide (d < k.1)) mem = mem := hT
 refine start_in (Tryz.f147.body.getD .skip) [.tmp 4] G Tryz.func147 (by kernel_rfl) (by simp [Tryz.ntmps147]) rfl ?_
 unfold slices_IndexFunc_Heap at hp
 simp [Tryz.f147, gP, gt, gr, gg, hm_0.copy, hm_0.elem]
 obtain ⟨r_18, h_19, hp⟩ := zab hp
 obtain ⟨I_3, I_3_⟩ := exV fun (s_1 : Int) (σ : St) => (σ.env 0 = uL m_0 s ∧ σ.env 7 = uI (s.length : Int) ∧ σ.env 8 = uI s_1) ∧ σ.env 1 = .one (.fn fk_f_ caps_f_) ∧ σ.mem = mem
 obtain ⟨X_4, X_4_⟩ := exV fun (r_18 : (Int) ⊕ (Unit)) (out : Out) => Sum.elim (fun r_18 => ∃ σ : St, out = .ret σ ∧ σ.env 4 = uI r_18 ∧ σ.mem = mem) (fun r_18 => ∃ σ : St, out = .exit 0 σ ∧ σ.mem = mem) r_18
 refine loopP ({ hd := [0, 1, 7, 8], bx := [], ex := [], rt := [4] }) I_3 X_4 h_19 (by exact k_2) ?_ ?_ ?_
 ·rw [I_3_]
  exact ⟨by simp [zac, zaa, gP, gt, gr, gg, hm_0.copy, hm_0.elem], by simp [zac, gP, gt, gr, gg, hm_0.copy, hm_0.elem] <;> first | (intro x x1 x2 hx; have h0 := hl_f_ _ hx; simp at h0; omega) | (intro x hx; have h0 := hl_f_ _ hx; simp at h0; omega), by simp [zaa, gP, gt, gr, gg, hm_0.copy, hm_0.elem]⟩
 ·intro s_1 σ_5 a_2 hI hp
  rw [I_3_] at hI
  obtain ⟨q_8, q_6, q_7⟩ := hI
  try simp [gP, gt, gr, gg, hm_0.copy, hm_0.elem, q_8, q_6, q_7]
  rcases zad hp with ⟨h_9, hp⟩ | ⟨h_9, hp⟩
  ·try simp at h_9
   obtain ⟨e_10, h_11, hp⟩ := zab hp
   have b_12 := at_lo h_11
   have b_13 := at_hi h_11
   try simp at b_12 b_13
   have c_14 := seg_at' h_11 0 2 (by decide) (ds := [.sl e_10.vars.length (encL e_10.vars), .sl e_10.next.length (encL e_10.next)]) rfl
   try simp at c_14
   obtain ⟨y_15, h_16, hp⟩ := zab hp
   try simp [gP, gt, gr, gg, hm_0.copy, hm_0.elem, q_8, q_6, q_7, h_9, b_12, b_13, c_14]
   refine goal_call ([av m_0 e_10] ++ capsAV caps_f_) (Res.res y_15) (by simp [capsAV, gP, gt, gr, gg, hm_0.copy, hm_0.elem, q_8, q_6, q_7, h_9]) (hc_f_ _ _ _ (e_10, ()) _ (Nat.le_succ d) (fun k hk => by first | rfl | rw [q_7]) (by repeat (first | exact zaf _ | exact hT.up | exact hT | (simp only [q_8, q_6, q_7]; done) | refine Tight.upd ?_ (by simp) (by simp) | refine Tight.killB ?_ | refine zaj ?_)) ⟨_, _, hm_0, rfl, rfl⟩ h_16) ?_
   try simp [gP, gt, gr, gg, hm_0.copy, hm_0.elem, q_8, q_6, q_7, h_9]
   rcases zad hp with ⟨h_17, hp⟩ | ⟨h_17, hp⟩
   ·try simp at h_17
    cases hp
    try simp [gP, gt, gr, gg, hm_0.copy, hm_0.elem, q_8, q_6, q_7, h_9, h_17]
    refine zan ?_
    rw [X_4_]
    exact ⟨_, rfl, by simp [zac, zaa, gP, gt, gr, gg, hm_0.copy, hm_0.elem, q_8, q_6, q_7, h_9, h_17], by simp [zaa, gP, gt, gr, gg, hm_0.copy, hm_0.elem, q_8, q_6, q_7, h_9, h_17]⟩
   ·try simp at h_17
    cases hp
    try simp [gP, gt, gr, gg, hm_0.copy, hm_0.elem, q_8, q_6, q_7, h_9, h_17]
    refine zah ?_
    rw [I_3_]
    exact ⟨by simp [zac, zaa, gP, gt, gr, gg, hm_0.copy, hm_0.elem, q_8, q_6, q_7, h_9, h_17], by simp [zac, gP, gt, gr, gg, hm_0.copy, hm_0.elem, q_8, q_6, q_7, h_9, h_17] <;> first | (intro x x1 x2 hx; have h0 := hl_f_ _ hx; simp at h0; omega) | (intro x hx; have h0 := hl_f_ _ hx; simp at h0; omega), by simp [zaa, gP, gt, gr, gg, hm_0.copy, hm_0.elem, q_8, q_6, q_7, h_9, h_17]⟩
  ·try simp at h_9
   cases hp
   try simp [gP, gt, gr, gg, hm_0.copy, hm_0.elem, q_8, q_6, q_7, h_9]
   refine zak ?_
   rw [X_4_]
   exact ⟨_, rfl, by simp [zaa, gP, gt, gr, gg, hm_0.copy, hm_0.elem, q_8, q_6, q_7, h_9]⟩
 ·intro out hX
  rw [X_4_] at hX
  rcases r_18 with r_18 | r_18
  ·simp only [Sum.elim_inl, Sum.elim_inr] at hX hp
   obtain ⟨σ_20, rfl, q_22, q_21⟩ := hX
   cases hp
   simp [Goal, FnEndI, memKill_hi, gP, gt, gr, gg, hm_0.copy, hm_0.elem, q_22, q_21, hT2]
  ·simp only [Sum.elim_inl, Sum.elim_inr] at hX hp
   obtain ⟨σ_23, rfl, q_24⟩ := hX
   cases hp
   simp [Goal, FnEndI, memKill_hi, gP, gt, gr, gg, hm_0.copy, hm_0.elem, q_24, hT2]

abbrev G115 (g : Cfg) : Prop := Has Tryz.prog g 115 Tryz.f115 [] [] [] []
theorem wI115 {g : Cfg} (G : G115 g) (G_147 : G147 g) {d : Nat} {mem : Mem} (hT : Tight d mem)  {s : (List THeap)} {f_ : (THeap → Option (Bool))} {m_0 : Md} (hm_0 : LentM m_0) {fk_f_ : Nat} {caps_f_ : List (Key × Nat)} (hl_f_ : ∀ c ∈ caps_f_, c.1.1 ≤ d) (hc_f_ : Clo g d mem fk_f_ caps_f_ fun x : THeap × Unit => f_ x.1) {y} (hp : slices_ContainsFunc_Heap s f_ = some y) : callo g d 115 [av m_0 s, .one (.fn fk_f_ caps_f_)] mem = some (Res.res y, mem) := by
 have gP := G.P; have gt := G.tk; have gr := G.ro; have gg := G.gh
 have i_147 := G_147.no
 have hT2 : memKill (fun k => decide (d < k.1)) mem = mem := hT
 refine start_in (Tryz.f115.body.getD .skip) [.tmp 4] G Tryz.func115 (by kernel_rfl) (by simp [Tryz.ntmps115]) rfl ?_
 unfold slices_ContainsFunc_Heap at hp
 obtain ⟨y_1, h_2, hp⟩ := zab hp
 simp [Tryz.f115, gP, gt, gr, gg, i_147, hm_0.copy, hm_0.elem]
 refine goal_call [av m_0 s, .one (.fn fk_f_ caps_f_)] (Res.res y_1) (by simp [gP, gt, gr, gg, i_147, hm_0.copy, hm_0.elem]) (wI147 G_147 (by repeat (first | exact zaf _ | exact hT.up | exact hT | (simp only [true_and]; done) | refine Tight.upd ?_ (by simp) (by simp) | refine Tight.killB ?_ | refine zaj ?_)) hm_0 (fun c hc => Nat.le_succ_of_le (hl_f_ c hc)) (hc_f_.mono (Nat.le_succ d) (fun k hk => rfl)) h_2) ?_
 cases hp
 simp [Goal, FnEndI, memKill_hi, gP, gt, gr, gg, i_147, hm_0.copy, hm_0.elem, hT2]

abbrev G116 (g : Cfg) : Prop := Has Tryz.prog g 116 Tryz.f116 [] [] [(54, C54)] []
theorem wI116 {g : Cfg} (G : G116 g) {d : Nat} {mem : Mem} (hT : Tight d mem) {K_1 : Key} {h_ : THeap} {c0 : TProgram} {m_0 : Md} (hm_0 : LentM m_0) {mk_1 : Md} (hk_1 : K_1.1 ≤ d) (hb_1 : mem K_1 = some [(.l mk_1 c0.vars.length (encL c0.vars)), (.s (.int .i64 c0.points)), (.l mk_1 c0.edges.length (encL c0.edges))]) {y} (hp : impl_explore_1 h_ c0 = some y) : callo g d 116 [av m_0 h_, .one (.ptr K_1 0)] mem = some (Res.res y, mem) := by
 have gP := G.P; have gt := G.tk; have gr := G.ro; have gg := G.gh
 have c_54 := G.cs (54, C54) (by simp)
 have hT2 : memKill (fun k => decide (d < k.1)) mem = mem := hT
 have hm0 : ∀ t, mem (d + 1, t) = none := fun t => hT.none (by simp)
 have nk_1 : ∀ t, (K_1 = (d + 1, t)) = False := fun t => by simp; intro h; rw [h] at hk_1; simp at hk_1; omega
 refine start_in (Tryz.f116.body.getD .skip) [.tmp 3] G Tryz.func116 (by kernel_rfl) (by simp [Tryz.ntmps116]) rfl ?_
 unfold impl_explore_1 at hp
 obtain ⟨y_1, h_2, hp⟩ := zab hp
 have c_3 := C54_eq h_2
 simp at c_3
 cases hp
 simp [Tryz.f116, Goal, FnEndI, memKill_hi, gP, gt, gr, gg, hm0, c_54, hm_0.copy, hm_0.elem, hb_1, nk_1, c_3, hT2]

abbrev G148 (g : Cfg) : Prop := Has Tryz.prog g 148 Tryz.f148 [] [(2, { hd := [0, 1, 7, 8], bx := [], ex := [], rt := [4] })] [] []
theorem wI148 {g : Cfg} (G : G148 g) {d : Nat} {mem : Mem} (hT : Tight d mem)  {s : (List TMetState)} {f_ : (TMetState → Option (Bool))} {m_0 : Md} (hm_0 : LentM m_0) {fk_f_ : Nat} {caps_f_ : List (Key × Nat)} (hl_f_ : ∀ c ∈ caps_f_, c.1.1 ≤ d) (hc_f_ : Clo g d mem fk_f_ caps_f_ fun x : TMetState × Unit => f_ x.1) {y} (hp : slices_IndexFunc_metState s f_ = some y) : callo g d 148 [av m_0 s, .one (.fn fk_f_ caps_f_)] mem = some (Res.res y, mem) := by
 have gP := G.P; have gt := G.tk; have gr := G.ro; have gg := G.gh
 have k_2 := G.kp (2, { hd := [0, 1, 7, 8], bx := [], ex := [], rt := [4] }) (by simp)
 have hT2 : memKill (fun k => decide (d < k.1)) mem = mem := hT
 refine start_in (Tryz.f148.body.getD .skip) [.tmp 4] G Tryz.func148 (by kernel_rfl) (by simp [Tryz.ntmps148]) rfl ?_
 unfold slices_IndexFunc_metState at hp
 simp [Tryz.f148, gP, gt, gr, gg, hm_0.copy, hm_0.elem]
 obtain ⟨r_18, h_19, hp⟩ := zab hp
 obtain ⟨I_3, I_3_⟩ := exV fun (s_1 : Int) (σ : St) => (σ.env 0 = uL m_0 s ∧ σ.env 7 = uI (s.length : Int) ∧ σ.env 8 = uI s_1) ∧ σ.env 1 = .one (.fn fk_f_ caps_f_) ∧ σ.mem = mem
 obtain ⟨X_4, X_4_⟩ := exV fun (r_18 : (Int) ⊕ (Unit)) (out : Out) => Sum.elim (fun r_18 => ∃ σ : St, out = .ret σ ∧ σ.env 4 = uI r_18 ∧ σ.mem = mem) (fun r_18 => ∃ σ : St, out = .exit 0 σ ∧ σ.mem = mem) r_18
 refine loopP ({ hd := [0, 1, 7, 8], bx := [], ex := [], rt := [4] }) I_3 X_4 h_19 (by exact k_2) ?_ ?_ ?_
 ·rw [I_3_]
  exact ⟨by simp [zac, zaa, gP, gt, gr, gg, hm_0.copy, hm_0.elem], by simp [zac, gP, gt, gr, gg, hm_0.copy, hm_0.elem] <;> first | (intro x x1 x2 hx; have h0 := hl_f_ _ hx; simp at h0; omega) | (intro x hx; have h0 := hl_f_ _ hx; simp at h0; omega), by simp [zaa, gP, gt, gr, gg, hm_0.copy, hm_0.elem]⟩
 ·intro s_1 σ_5 a_2 hI hp
  rw [I_3_] at hI
  obtain ⟨q_8, q_6, q_7⟩ := hI
  try simp [gP, gt, gr, gg, hm_0.copy, hm_0.elem, q_8, q_6, q_7]
  rcases zad hp with ⟨h_9, hp⟩ | ⟨h_9, hp⟩
  ·try simp at h_9
   obtain ⟨e_10, h_11, hp⟩ := zab hp
   have b_12 := at_lo h_11
   have b_13 := at_hi h_11
   try simp at b_12 b_13
   have c_14 := seg_at' h_11 0 5 (by decide) (ds := [.sc (.int .i64 e_10.state.point), .sl e_10.state.heap.vars.length (encL e_10.state.heap.vars), .sl e_10.state.heap.next.length (encL e_10.state.heap.next), .sc (.int .i64 e_10.from_), .sc (.int .i64 e_10.edge)]) rfl
   try simp at c_14
   obtain ⟨y_15, h_16, hp⟩ := zab hp
   try simp [gP, gt, gr, gg, hm_0.copy, hm_0.elem, q_8, q_6, q_7, h_9, b_12, b_13, c_14]
   refine goal_call ([av m_0 e_10] ++ capsAV caps_f_) (Res.res y_15) (by simp [capsAV, gP, gt, gr, gg, hm_0.copy, hm_0.elem, q_8, q_6, q_7, h_9]) (hc_f_ _ _ _ (e_10, ()) _ (Nat.le_succ d) (fun k hk => by first | rfl | rw [q_7]) (by repeat (first | exact zaf _ | exact hT.up | exact hT | (simp only [q_8, q_6, q_7]; done) | refine Tight.upd ?_ (by simp) (by simp) | refine Tight.killB ?_ | refine zaj ?_)) ⟨_, _, hm_0, rfl, rfl⟩ h_16) ?_
   try simp [gP, gt, gr, gg, hm_0.copy, hm_0.elem, q_8, q_6, q_7, h_9]
   rcases zad hp with ⟨h_17, hp⟩ | ⟨h_17, hp⟩
   ·try simp at h_17
    cases hp
    try simp [gP, gt, gr, gg, hm_0.copy, hm_0.elem, q_8, q_6, q_7, h_9, h_17]
    refine zan ?_
    rw [X_4_]
    exact ⟨_, rfl, by simp [zac, zaa, gP, gt, gr, gg, hm_0.copy, hm_0.elem, q_8, q_6, q_7, h_9, h_17], by simp [zaa, gP, gt, gr, gg, hm_0.copy, hm_0.elem, q_8, q_6, q_7, h_9, h_17]⟩
   ·try simp at h_17
    cases hp
    try simp [gP, gt, gr, gg, hm_0.copy, hm_0.elem, q_8, q_6, q_7, h_9, h_17]
    refine zah ?_
    rw [I_3_]
    exact ⟨by simp [zac, zaa, gP, gt, gr, gg, hm_0.copy, hm_0.elem, q_8, q_6, q_7, h_9, h_17], by simp [zac, gP, gt, gr, gg, hm_0.copy, hm_0.elem, q_8, q_6, q_7, h_9, h_17] <;> first | (intro x x1 x2 hx; have h0 := hl_f_ _ hx; simp at h0; omega) | (intro x hx; have h0 := hl_f_ _ hx; simp at h0; omega), by simp [zaa, gP, gt, gr, gg, hm_0.copy, hm_0.elem, q_8, q_6, q_7, h_9, h_17]⟩
  ·try simp at h_9
   cases hp
   try simp [gP, gt, gr, gg, hm_0.copy, hm_0.elem, q_8, q_6, q_7, h_9]
   refine zak ?_
   rw [X_4_]
   exact ⟨_, rfl, by simp [zaa, gP, gt, gr, gg, hm_0.copy, hm_0.elem, q_8, q_6, q_7, h_9]⟩
 ·intro out hX
  rw [X_4_] at hX
  rcases r_18 with r_18 | r_18
  ·simp only [Sum.elim_inl, Sum.elim_inr] at hX hp
   obtain ⟨σ_20, rfl, q_22, q_21⟩ := hX
   cases hp
   simp [Goal, FnEndI, memKill_hi, gP, gt, gr, gg, hm_0.copy, hm_0.elem, q_22, q_21, hT2]
  ·simp only [Sum.elim_inl, Sum.elim_inr] at hX hp
   obtain ⟨σ_23, rfl, q_24⟩ := hX
   cases hp
   simp [Goal, FnEndI, memKill_hi, gP, gt, gr, gg, hm_0.copy, hm_0.elem, q_24, hT2]
end Go.Proofs

