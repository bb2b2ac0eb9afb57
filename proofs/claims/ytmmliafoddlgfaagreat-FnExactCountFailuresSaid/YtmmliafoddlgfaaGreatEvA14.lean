import Derived.Test.YtmmliafoddlgfaaGreatEvA13
set_option linter.unusedSimpArgs false
set_option linter.unusedVariables false
set_option linter.unnecessarySimpa false
noncomputable section
set_option maxHeartbeats 4000000
set_option maxRecDepth 100000
namespace Go.Proofs
open Go.Ev
def C87 : List AV → Option AV := specP (X := THeap × Unit) fun x => spec_HasLeak x.1
theorem C87_eq {h_} {y} (h : spec_HasLeak h_ = some y) : C87 [av .shr h_] = some (Res.res y) := zag (x := (h_, ())) h
def g87 : Cfg := { P := Tryz.prog, take := [], keep := [], gho := [], ctx := [(80, C80)] }
@[simp] theorem g87_s : g87.P = Tryz.prog ∧ g87.ctx = [(80, C80)] ∧ Pl0 g87 := by simp [g87]
theorem w87 {h_} {y} (hp : spec_HasLeak h_ = some y) : ∃ m, callo g87 0 87 [av .shr h_] mem0 = some (Res.res y, m) := by
 refine st0 [.tmp 2] Tryz.func87 ?_
 unfold spec_HasLeak at hp
 obtain ⟨y_1, h_2, hp⟩ := zab hp
 have c_3 := C80_eq h_2
 simp at c_3
 cases hp
 simp [Tryz.f87, Goal, FnEnd, c_3]
theorem pc87 : PC Tryz.prog 87 C87 := pc_of (g := g87) (zai _ g87_s.2.1 ⟨pc80, trivial⟩) (ent Tryz.func87) fun x y h => w87 h

def C130 : List AV → Option AV := specP (X := (List Int) × Int × Unit) fun x => spec_l7New x.1 x.2.1
theorem C130_eq {order cell} {y} (h : spec_l7New order cell = some y) : C130 [av .shr order, av .shr cell] = some (Res.res y) := zag (x := (order, cell, ())) h
def g130 : Cfg := { P := Tryz.prog, take := [], keep := [], gho := [], ctx := [(151, C151)] }
@[simp] theorem g130_s : g130.P = Tryz.prog ∧ g130.ctx = [(151, C151)] ∧ Pl0 g130 := by simp [g130]
theorem w130 {order cell} {y} (hp : spec_l7New order cell = some y) : ∃ m, callo g130 0 130 [av .shr order, av .shr cell] mem0 = some (Res.res y, m) := by
 refine st0 [.tmp 4] Tryz.func130 ?_
 unfold spec_l7New at hp
 obtain ⟨y_1, h_2, hp⟩ := zab hp
 have c_3 := C151_eq h_2
 simp at c_3
 simp [Tryz.f130, c_3]
 rcases zad hp with ⟨h_4, hp⟩ | ⟨h_4, hp⟩
 ·try simp at h_4
  cases hp
  simp [Goal, FnEnd, h_4]
 ·try simp at h_4
  obtain ⟨e_5, h_6, hp⟩ := zab hp
  have b_8 := at_hi h_6
  try simp at b_8
  have c_9 := seg_at' h_6 0 1 (by decide) (ds := [.sc (.int .i64 e_5)]) rfl
  try simp at c_9
  cases hp
  simp [Goal, FnEnd, h_4, b_8, c_9]
theorem pc130 : PC Tryz.prog 130 C130 := pc_of (g := g130) (zai _ g130_s.2.1 ⟨pc151, trivial⟩) (ent Tryz.func130) fun x y h => w130 h

def C88 : List AV → Option AV := specP (X := THeap × Unit) fun x => spec_CanonHeap x.1
theorem C88_eq {h_} {y} (h : spec_CanonHeap h_ = some y) : C88 [av .shr h_] = some (Res.res y) := zag (x := (h_, ())) h
def g88 : Cfg := { P := Tryz.prog, take := [(88, 22), (88, 40), (88, 54)], keep := [((88, 6), { hd := [1, 2, 3, 4, 5], bx := [], ex := [1, 2, 3, 4], rt := [2] }), ((88, 10), { hd := [1, 2, 3, 4, 6], bx := [], ex := [2, 4], rt := [2] })], gho := [], ctx := [(78, C78), (80, C80), (130, C130)] }
@[simp] theorem g88_s : g88.P = Tryz.prog ∧ g88.ctx = [(78, C78), (80, C80), (130, C130)] ∧ Pl1 g88 ∧ g88.take = [(88, 22), (88, 40), (88, 54)] := by simp [g88]
theorem w88 {h_} {y} (hp : spec_CanonHeap h_ = some y) : ∃ m, callo g88 0 88 [av .shr h_] mem0 = some (Res.res y, m) := by
 refine st0 [.cell 2 31] Tryz.func88 ?_
 unfold spec_CanonHeap at hp
 obtain ⟨y_1, h_2, hp⟩ := zab hp
 have c_3 := C78_eq h_2
 simp at c_3
 simp [Tryz.f88, c_3]
 rcases zad hp with ⟨h_4, hp⟩ | ⟨h_4, hp⟩
 ·try simp at h_4
  obtain ⟨y_5, h_6, hp⟩ := zab hp
  have c_7 := C80_eq h_6
  simp at c_7
  try simp [h_4, c_7]
  obtain ⟨r_26, h_27, hp⟩ := zab hp
  obtain ⟨I_10, I_10_⟩ := exV fun (s_8 : Int × (List Int)) (σ : St) => (σ.env 1 = uP (1, 1) ∧ σ.env 2 = uP (1, 2) ∧ σ.env 3 = uL .own y_5 ∧ σ.env 4 = uP (1, 4) ∧ σ.env 5 = uI s_8.1 ∧ σ.mem (1, 1) = some [(.l .shr h_.vars.length (encL h_.vars)), (.l .shr h_.next.length (encL h_.next))] ∧ σ.mem (1, 2) = some [(.l .own 0 []), (.l .own 0 [])] ∧ σ.mem (1, 4) = some [(.l .own s_8.2.length (encL s_8.2)), (.l .own 0 [])]) ∧ NoBox [(1, 1), (1, 2), (1, 4)] σ.mem
  obtain ⟨X_11, X_11_⟩ := exV fun (r_26 : (List Int)) (out : Out) => ∃ σ : St, out = .exit 0 σ ∧ (σ.env 1 = uP (1, 1) ∧ σ.env 2 = uP (1, 2) ∧ σ.env 3 = uL .own y_5 ∧ σ.env 4 = uP (1, 4) ∧ σ.mem (1, 1) = some [(.l .shr h_.vars.length (encL h_.vars)), (.l .shr h_.next.length (encL h_.next))] ∧ σ.mem (1, 2) = some [(.l .own 0 []), (.l .own 0 [])] ∧ σ.mem (1, 4) = some [(.l .own r_26.length (encL r_26)), (.l .own 0 [])]) ∧ NoBox [(1, 1), (1, 2), (1, 4)] σ.mem
  refine loopP ({ hd := [1, 2, 3, 4, 5], bx := [], ex := [1, 2, 3, 4], rt := [2] }) I_10 X_11 h_27 (by exact rfl) ?_ ?_ ?_
  ·rw [I_10_]
   exact ⟨by simp [zac, zaa, h_4], NoBox.restrict (by intro k hk hb; simp at hk hb; simp [hk, hb, h_4])⟩
  ·intro s_8 σ_12 a_9 hI hp
   rw [I_10_] at hI
   obtain ⟨q_14, hn_13⟩ := hI
   try simp [h_4, q_14]
   rcases zad hp with ⟨h_15, hp⟩ | ⟨h_15, hp⟩
   ·try simp at h_15
    obtain ⟨e_16, h_17, hp⟩ := zab hp
    have b_18 := at_lo h_17
    have b_19 := at_hi h_17
    try simp at b_18 b_19
    have c_20 := seg_at' h_17 0 1 (by decide) (ds := [.sc (.int .i64 e_16)]) rfl
    try simp at c_20
    obtain ⟨y_21, h_22, hp⟩ := zab hp
    have c_23 := C130_eq h_22
    simp at c_23
    obtain ⟨_, h_24, hp⟩ := zab hp
    have b_25 := room_ok h_24
    try simp at b_25
    cases hp
    try simp [h_4, q_14, h_15, b_18, b_19, c_20, c_23, b_25]
    refine zah ?_
    rw [I_10_]
    exact ⟨by simp [zac, zaa, h_4, q_14, h_15, b_18, b_19, c_20, c_23, b_25], NoBox.restrict (by intro k hk hb; simp at hk hb; simp [hk, hb, h_4, q_14, h_15, b_18, b_19, c_20, c_23, b_25, hn_13 k (by simp [hk, hb])])⟩
   ·try simp at h_15
    cases hp
    try simp [h_4, q_14, h_15]
    refine zak ?_
    rw [X_11_]
    exact ⟨_, rfl, by simp [zac, zaa, h_4, q_14, h_15], NoBox.restrict (by intro k hk hb; simp at hk hb; simp [hk, hb, h_4, q_14, h_15, hn_13 k (by simp [hk, hb])])⟩
  ·intro out hX
   rw [X_11_] at hX
   obtain ⟨σ_28, rfl, q_30, hn_29⟩ := hX
   try simp [h_4, q_30]
   obtain ⟨r_54, h_55, hp⟩ := zab hp
   obtain ⟨I_33, I_33_⟩ := exV fun (s_31 : Int × (List Int)) (σ : St) => (σ.env 1 = uP (1, 1) ∧ σ.env 2 = uP (1, 2) ∧ σ.env 3 = uL .own y_5 ∧ σ.env 4 = uP (1, 4) ∧ σ.env 6 = uI s_31.1 ∧ σ.mem (1, 1) = some [(.l .shr h_.vars.length (encL h_.vars)), (.l .shr h_.next.length (encL h_.next))] ∧ σ.mem (1, 2) = some [(.l .own 0 []), (.l .own 0 [])] ∧ σ.mem (1, 4) = some [(.l .own r_26.length (encL r_26)), (.l .own s_31.2.length (encL s_31.2))]) ∧ NoBox [(1, 1), (1, 2), (1, 4)] σ.mem
   obtain ⟨X_34, X_34_⟩ := exV fun (r_54 : (List Int)) (out : Out) => ∃ σ : St, out = .exit 2 σ ∧ (σ.env 2 = uP (1, 2) ∧ σ.env 4 = uP (1, 4) ∧ σ.mem (1, 1) = some [(.l .shr h_.vars.length (encL h_.vars)), (.l .shr h_.next.length (encL h_.next))] ∧ σ.mem (1, 2) = some [(.l .own 0 []), (.l .own 0 [])] ∧ σ.mem (1, 4) = some [(.l .own r_26.length (encL r_26)), (.l .own r_54.length (encL r_54))]) ∧ NoBox [(1, 1), (1, 2), (1, 4)] σ.mem
   refine loopP ({ hd := [1, 2, 3, 4, 6], bx := [], ex := [2, 4], rt := [2] }) I_33 X_34 h_55 (by exact rfl) ?_ ?_ ?_
   ·rw [I_33_]
    exact ⟨by simp [zac, zaa, h_4, q_30], NoBox.restrict (by intro k hk hb; simp at hk hb; simp [hk, hb, h_4, q_30, hn_29 k (by simp [hk, hb])])⟩
   ·intro s_31 σ_35 a_32 hI hp
    rw [I_33_] at hI
    obtain ⟨q_37, hn_36⟩ := hI
    try simp [h_4, q_37]
    rcases zad hp with ⟨h_38, hp⟩ | ⟨h_38, hp⟩
    ·try simp at h_38
     obtain ⟨e_39, h_40, hp⟩ := zab hp
     have b_41 := at_lo h_40
     have b_42 := at_hi h_40
     try simp at b_41 b_42
     have c_43 := seg_at' h_40 0 1 (by decide) (ds := [.sc (.int .i64 e_39)]) rfl
     try simp at c_43
     obtain ⟨e_44, h_45, hp⟩ := zab hp
     have b_46 := at_lo h_45
     have b_47 := at_hi h_45
     try simp at b_46 b_47
     have c_48 := seg_at' h_45 0 1 (by decide) (ds := [.sc (.int .i64 e_44)]) rfl
     try simp at c_48
     obtain ⟨y_49, h_50, hp⟩ := zab hp
     have c_51 := C130_eq h_50
     simp at c_51
     obtain ⟨_, h_52, hp⟩ := zab hp
     have b_53 := room_ok h_52
     try simp at b_53
     cases hp
     try simp [h_4, q_37, h_38, b_41, b_42, c_43, b_46, b_47, c_48, c_51, b_53]
     refine zah ?_
     rw [I_33_]
     exact ⟨by simp [zac, zaa, h_4, q_37, h_38, b_41, b_42, c_43, b_46, b_47, c_48, c_51, b_53], NoBox.restrict (by intro k hk hb; simp at hk hb; simp [hk, hb, h_4, q_37, h_38, b_41, b_42, c_43, b_46, b_47, c_48, c_51, b_53, hn_36 k (by simp [hk, hb])])⟩
    ·try simp at h_38
     cases hp
     try simp [h_4, q_37, h_38]
     refine zak ?_
     rw [X_34_]
     exact ⟨_, rfl, by simp [zac, zaa, h_4, q_37, h_38], NoBox.restrict (by intro k hk hb; simp at hk hb; simp [hk, hb, h_4, q_37, h_38, hn_36 k (by simp [hk, hb])])⟩
   ·intro out hX
    rw [X_34_] at hX
    obtain ⟨σ_56, rfl, q_58, hn_57⟩ := hX
    cases hp
    simp [Goal, FnEnd, retR, rsrc, RSrc.val, nodupR, nodup, tupPart, h_4, q_58]
 ·try simp at h_4
  cases hp
  simp [Goal, FnEnd, retR, rsrc, RSrc.val, nodupR, nodup, tupPart, h_4]
theorem pc88 : PC Tryz.prog 88 C88 := pc_of (g := g88) (zai _ g88_s.2.1 ⟨pc78, pc80, pc130, trivial⟩) (ent Tryz.func88) fun x y h => w88 h

def C50 : List AV → Option AV := specP (X := (List ByteArray) × TStmt × THeap × Unit) fun x => spec_Exec x.1 x.2.1 x.2.2.1
theorem C50_eq {vars s h_} {y} (h : spec_Exec vars s h_ = some y) : C50 [av .shr vars, av .shr s, av .shr h_] = some (Res.res y) := zag (x := (vars, s, h_, ())) h
def g50 : Cfg := { P := Tryz.prog, take := [(50, 72)], keep := [], gho := [], ctx := [(47, C47), (48, C48), (76, C76), (81, C81), (82, C82), (83, C83), (84, C84), (85, C85), (87, C87), (88, C88)], give := [(50, 78)], octx := [(86, C86)] }
@[simp] theorem g50_s : g50.P = Tryz.prog ∧ g50.ctx = [(47, C47), (48, C48), (76, C76), (81, C81), (82, C82), (83, C83), (84, C84), (85, C85), (87, C87), (88, C88)] ∧ g50.take = [(50, 72)] ∧ g50.gho = [] ∧ g50.ro = [] ∧ g50.away = [] ∧ g50.give = [(50, 78)] ∧ g50.octx = [(86, C86)] := by simp [g50]
theorem kj50 {g : Cfg} {d f : Nat} (id : Nat) (ops : Array Oper) (draw : Bool) (K : List It) (σ : St) (h : [1, 5, 9].contains id = false) : evk g d f (.region id ops draw) K σ = ghoK g d f ((lookK (f, id) g.gho).getD []) ops (behK ((lookK (f, behind id) g.gho).getD []) K) σ := k_regionS id ops draw K σ h
theorem w50 {vars s h_} {y} (hp : spec_Exec vars s h_ = some y) : ∃ m, callo g50 0 50 [av .shr vars, av .shr s, av .shr h_] mem0 = some (Res.res y, m) := by
 refine st0 [.cell 6 31, .tmp 7] Tryz.func50 ?_
 unfold spec_Exec at hp
 simp [Tryz.f50, -zae, kj50]
 obtain ⟨r_1, h_2, hp⟩ := zab hp
 refine joinP (J := fun (σ : St) => (σ.env 0 = uL .shr vars ∧ σ.env 4 = uP (1, 4) ∧ σ.env 5 = uP (1, 5) ∧ σ.env 6 = uP (1, 6) ∧ σ.env 22 = uB r_1 ∧ σ.mem (1, 4) = some [(.s (.int .i64 s.kind)), (.s (.string s.a)), (.s (.string s.b))] ∧ σ.mem (1, 5) = some [(.l .shr h_.vars.length (encL h_.vars)), (.l .shr h_.next.length (encL h_.next))] ∧ σ.mem (1, 6) = some [(.l .own 0 []), (.l .own 0 [])]) ∧ NoBox [(1, 4), (1, 5), (1, 6)] σ.mem) ?_ ?_
 ·replace hp := h_2
  rw [zae]
  obtain ⟨y_6, h_7, hp⟩ := zab hp
  have c_8 := C76_eq h_7
  simp at c_8
  try simp [-zae, kj50, c_8]
  rcases zad hp with ⟨h_9, hp⟩ | ⟨h_9, hp⟩
  ·try simp at h_9
   obtain ⟨y_10, h_11, hp⟩ := zab hp
   have c_12 := C47_eq h_11
   simp at c_12
   cases hp
   try simp [-zae, kj50, h_9, c_12]
   refine goal_join ?_
   exact ⟨by simp [zac, zaa, -zae, kj50, h_9, c_12], (by intro k hk; simp at hk; simp [hk, -zae, kj50, h_9, c_12])⟩
  ·try simp at h_9
   cases hp
   try simp [-zae, kj50, h_9]
   refine goal_join ?_
   exact ⟨by simp [zac, zaa, -zae, kj50, h_9], (by intro k hk; simp at hk; simp [hk, -zae, kj50, h_9])⟩
 ·intro σ_3 hJ
  obtain ⟨q_5, hn_4⟩ := hJ
  try simp [-zae, kj50, q_5]
  rcases zad hp with ⟨h_13, hp⟩ | ⟨h_13, hp⟩
  ·try simp at h_13
   cases hp
   simp [Goal, FnEnd, retR, rsrc, RSrc.val, nodupR, nodup, tupPart, -zae, kj50, q_5, h_13]
  ·try simp at h_13
   obtain ⟨y_14, h_15, hp⟩ := zab hp
   have c_16 := C82_eq h_15
   simp at c_16
   obtain ⟨y_17, h_18, hp⟩ := zab hp
   have c_19 := C81_eq h_18
   simp at c_19
   obtain ⟨y_20, h_21, hp⟩ := zab hp
   have c_22 := C82_eq h_21
   simp at c_22
   obtain ⟨y_23, h_24, hp⟩ := zab hp
   have c_25 := C81_eq h_24
   simp at c_25
   try simp [-zae, kj50, q_5, h_13, c_16, c_19, c_22, c_25]
   obtain ⟨r_26, h_27, hp⟩ := zab hp
   refine joinP (J := fun (σ : St) => (σ.env 4 = uP (1, 4) ∧ σ.env 5 = uP (1, 5) ∧ σ.env 6 = uP (1, 6) ∧ σ.env 8 = uI y_17 ∧ σ.env 9 = uI y_23 ∧ σ.env 34 = uB r_26 ∧ σ.mem (1, 4) = some [(.s (.int .i64 s.kind)), (.s (.string s.a)), (.s (.string s.b))] ∧ σ.mem (1, 5) = some [(.l .shr h_.vars.length (encL h_.vars)), (.l .shr h_.next.length (encL h_.next))] ∧ σ.mem (1, 6) = some [(.l .own 0 []), (.l .own 0 [])]) ∧ NoBox [(1, 4), (1, 5), (1, 6)] σ.mem) ?_ ?_
   ·replace hp := h_27
    rw [zae]
    obtain ⟨y_31, h_32, hp⟩ := zab hp
    have c_33 := C83_eq h_32
    simp at c_33
    try simp [-zae, kj50, q_5, h_13, c_16, c_19, c_22, c_25, c_33]
    rcases zad hp with ⟨h_34, hp⟩ | ⟨h_34, hp⟩
    ·try simp at h_34
     obtain ⟨e_35, h_36, hp⟩ := zab hp
     have b_37 := at_lo h_36
     have b_38 := at_hi h_36
     try simp at b_37 b_38
     have c_39 := seg_at' h_36 0 1 (by decide) (ds := [.sc (.int .i64 e_35)]) rfl
     try simp at c_39
     obtain ⟨e_40, h_41, hp⟩ := zab hp
     have b_42 := at_lo h_41
     have b_43 := at_hi h_41
     try simp at b_42 b_43
     have c_44 := seg_at' h_41 0 1 (by decide) (ds := [.sc (.int .i64 e_40)]) rfl
     try simp at c_44
     obtain ⟨y_45, h_46, hp⟩ := zab hp
     have c_47 := C84_eq h_46
     simp at c_47
     cases hp
     try simp [-zae, kj50, q_5, h_13, h_34, b_37, b_38, c_39, b_42, b_43, c_44, c_47]
     refine goal_join ?_
     exact ⟨by simp [zac, zaa, -zae, kj50, q_5, h_13, h_34, b_37, b_38, c_39, b_42, b_43, c_44, c_47], (by intro k hk; simp at hk; simp [hk, -zae, kj50, q_5, h_13, h_34, b_37, b_38, c_39, b_42, b_43, c_44, c_47, hn_4 k (by simp [hk])])⟩
    ·try simp at h_34
     cases hp
     try simp [-zae, kj50, q_5, h_13, h_34]
     refine goal_join ?_
     exact ⟨by simp [zac, zaa, -zae, kj50, q_5, h_13, h_34], (by intro k hk; simp at hk; simp [hk, -zae, kj50, q_5, h_13, h_34, hn_4 k (by simp [hk])])⟩
   ·intro σ_28 hJ
    obtain ⟨q_30, hn_29⟩ := hJ
    try simp [-zae, kj50, h_13, q_30]
    rcases zad hp with ⟨h_48, hp⟩ | ⟨h_48, hp⟩
    ·try simp at h_48
     cases hp
     simp [Goal, FnEnd, retR, rsrc, RSrc.val, nodupR, nodup, tupPart, -zae, kj50, h_13, q_30, h_48]
    ·try simp at h_48
     obtain ⟨y_49, h_50, hp⟩ := zab hp
     have c_51 := C85_eq h_50
     simp at c_51
     try simp [-zae, kj50, h_13, q_30, h_48, c_51]
     rcases zad hp with ⟨h_52, hp⟩ | ⟨h_52, hp⟩
     ·try simp at h_52
      cases hp
      simp [Goal, FnEnd, retR, rsrc, RSrc.val, nodupR, nodup, tupPart, -zae, kj50, h_13, q_30, h_48, h_52]
     ·try simp at h_52
      try simp [-zae, kj50, h_13, q_30, h_48, h_52]
      obtain ⟨r_53, h_54, hp⟩ := zab hp
      refine joinP (J := fun (σ : St) => (σ.env 4 = uP (1, 4) ∧ σ.env 5 = uP (1, 5) ∧ σ.env 6 = uP (1, 6) ∧ σ.env 8 = uI y_17 ∧ σ.env 9 = uI y_23 ∧ σ.env 61 = uB r_53 ∧ σ.mem (1, 4) = some [(.s (.int .i64 s.kind)), (.s (.string s.a)), (.s (.string s.b))] ∧ σ.mem (1, 5) = some [(.l .shr h_.vars.length (encL h_.vars)), (.l .shr h_.next.length (encL h_.next))] ∧ σ.mem (1, 6) = some [(.l .own 0 []), (.l .own 0 [])]) ∧ NoBox [(1, 4), (1, 5), (1, 6)] σ.mem) ?_ ?_
      ·replace hp := h_54
       rw [zae]
       try simp [-zae, kj50, h_13, q_30, h_48, h_52]
       rcases zad hp with ⟨h_58, hp⟩ | ⟨h_58, hp⟩
       ·try simp at h_58
        cases hp
        try simp [-zae, kj50, h_13, q_30, h_48, h_52, h_58]
        refine goal_join ?_
        exact ⟨by simp [zac, zaa, -zae, kj50, h_13, q_30, h_48, h_52, h_58], (by intro k hk; simp at hk; simp [hk, -zae, kj50, h_13, q_30, h_48, h_52, h_58, hn_29 k (by simp [hk])])⟩
       ·try simp at h_58
        cases hp
        try simp [-zae, kj50, h_13, q_30, h_48, h_52, h_58]
        refine goal_join ?_
        exact ⟨by simp [zac, zaa, -zae, kj50, h_13, q_30, h_48, h_52, h_58], (by intro k hk; simp at hk; simp [hk, -zae, kj50, h_13, q_30, h_48, h_52, h_58, hn_29 k (by simp [hk])])⟩
      ·intro σ_55 hJ
       obtain ⟨q_57, hn_56⟩ := hJ
       try simp [-zae, kj50, h_13, h_48, h_52, q_57]
       rcases zad hp with ⟨h_59, hp⟩ | ⟨h_59, hp⟩
       ·try simp at h_59
        cases hp
        simp [Goal, FnEnd, retR, rsrc, RSrc.val, nodupR, nodup, tupPart, -zae, kj50, h_13, h_48, h_52, q_57, h_59]
       ·try simp at h_59
        obtain ⟨y_60, h_61, hp⟩ := zab hp
        have c_62 := C48_eq h_61
        simp at c_62
        obtain ⟨y_65, h_66, hp⟩ := zab hp
        have c_67 := C86_eq h_66
        simp at c_67
        have n_68 := hn_56 (1, 10) (by simp)
        try simp [-zae, kj50, h_13, h_48, h_52, q_57, h_59, c_62, c_67, n_68]
        rcases zad hp with ⟨h_69, hp⟩ | ⟨h_69, hp⟩
        ·try simp at h_69
         cases hp
         simp [Goal, FnEnd, retR, rsrc, RSrc.val, nodupR, nodup, tupPart, -zae, kj50, h_13, h_48, h_52, q_57, h_59, h_69]
        ·try simp at h_69
         obtain ⟨y_70, h_71, hp⟩ := zab hp
         have c_72 := C87_eq h_71
         simp at c_72
         try simp [-zae, kj50, h_13, h_48, h_52, q_57, h_59, h_69, c_72]
         rcases zad hp with ⟨h_73, hp⟩ | ⟨h_73, hp⟩
         ·try simp at h_73
          cases hp
          simp [Goal, FnEnd, retR, rsrc, RSrc.val, nodupR, nodup, tupPart, -zae, kj50, h_13, h_48, h_52, q_57, h_59, h_69, h_73]
         ·try simp at h_73
          obtain ⟨y_74, h_75, hp⟩ := zab hp
          have c_76 := C88_eq h_75
          simp at c_76
          cases hp
          simp [Goal, FnEnd, retR, rsrc, RSrc.val, nodupR, nodup, tupPart, -zae, kj50, h_13, h_48, h_52, q_57, h_59, h_69, h_73, c_76]
theorem pc50 : PC Tryz.prog 50 C50 := pc_of (g := g50) (ctxOK_ofO [(47, C47), (48, C48), (76, C76), (81, C81), (82, C82), (83, C83), (84, C84), (85, C85), (87, C87), (88, C88)] rfl ⟨pc47, pc48, pc76, pc81, pc82, pc83, pc84, pc85, pc87, pc88, trivial⟩ [(86, C86)] rfl ⟨po86, trivial⟩) (ent Tryz.func50) fun x y h => w50 h

def C29 : List AV → Option AV := specP (X := TProgram × (List THeap) × Unit) fun x => spec_StatesFrom x.1 x.2.1
theorem C29_eq {p_ start} {y} (h : spec_StatesFrom p_ start = some y) : C29 [av .shr p_, av .shr start] = some (Res.res y) := zag (x := (p_, start, ())) h
def g29 : Cfg := { P := Tryz.prog, take := [(29, 18), (29, 35), (29, 74), (29, 89), (29, 92), (29, 99)], keep := [((29, 5), { hd := [1, 2, 6, 7], bx := [], ex := [2, 6], rt := [4, 5] }), ((29, 11), { hd := [2, 6, 8], bx := [11, 12], ex := [6], rt := [4, 5] }), ((29, 15), { hd := [2, 6, 8, 9, 10], bx := [11, 12], ex := [2, 6, 8], rt := [4, 5] })], gho := [], ctx := [(46, C46), (47, C47), (50, C50), (63, C63)], give := [(29, 41), (29, 94)], octx := [(68, C68)] }
@[simp] theorem g29_s : g29.P = Tryz.prog ∧ g29.ctx = [(46, C46), (47, C47), (50, C50), (63, C63)] ∧ g29.take = [(29, 18), (29, 35), (29, 74), (29, 89), (29, 92), (29, 99)] ∧ g29.gho = [] ∧ g29.ro = [] ∧ g29.away = [] ∧ g29.give = [(29, 41), (29, 94)] ∧ g29.octx = [(68, C68)] := by simp [g29]
theorem w29 {p_ start} {y} (hp : spec_StatesFrom p_ start = some y) : ∃ m, callo g29 0 29 [av .shr p_, av .shr start] mem0 = some (Res.res y, m) := by
 refine st0 [.tmp 4, .tmp 5] Tryz.func29 ?_
 unfold spec_StatesFrom at hp
 obtain ⟨y_1, h_2, hp⟩ := zab hp
 have c_3 := C46_eq h_2
 simp at c_3
 simp [Tryz.f29, c_3]
 rcases zad hp with ⟨h_4, hp⟩ | ⟨h_4, hp⟩
 ·try simp at h_4
  try simp [h_4]
  obtain ⟨r_32, h_33, hp⟩ := zab hp
  obtain ⟨I_7, I_7_⟩ := exV fun (s_5 : (List TState) × Int) (σ : St) => (σ.env 1 = uL .shr start ∧ σ.env 2 = uP (1, 2) ∧ σ.env 6 = uL .own s_5.1 ∧ σ.env 7 = uI s_5.2 ∧ σ.mem (1, 2) = some [(.l .shr p_.vars.length (encL p_.vars)), (.s (.int .i64 p_.points)), (.l .shr p_.edges.length (encL p_.edges))]) ∧ NoBox [(1, 2)] σ.mem
  obtain ⟨X_8, X_8_⟩ := exV fun (r_32 : (Unit) ⊕ ((List TState))) (out : Out) => Sum.elim (fun r_32 => ∃ σ : St, out = .ret σ ∧ (σ.env 4 = .one (.l .own 0 []) ∧ σ.env 5 = uB false ∧ σ.mem (1, 2) = some [(.l .shr p_.vars.length (encL p_.vars)), (.s (.int .i64 p_.points)), (.l .shr p_.edges.length (encL p_.edges))]) ∧ NoBox [(1, 2)] σ.mem) (fun r_32 => ∃ σ : St, out = .exit 0 σ ∧ (σ.env 2 = uP (1, 2) ∧ σ.env 6 = uL .own r_32 ∧ σ.mem (1, 2) = some [(.l .shr p_.vars.length (encL p_.vars)), (.s (.int .i64 p_.points)), (.l .shr p_.edges.length (encL p_.edges))]) ∧ NoBox [(1, 2)] σ.mem) r_32
  refine loopP ({ hd := [1, 2, 6, 7], bx := [], ex := [2, 6], rt := [4, 5] }) I_7 X_8 h_33 (by exact rfl) ?_ ?_ ?_
  ·rw [I_7_]
   exact ⟨by simp [zac, zaa, h_4], NoBox.restrict (by intro k hk hb; simp at hk hb; simp [hk, hb, h_4])⟩
  ·intro s_5 σ_9 a_6 hI hp
   rw [I_7_] at hI
   obtain ⟨q_11, hn_10⟩ := hI
   try simp [h_4, q_11]
   rcases zad hp with ⟨h_12, hp⟩ | ⟨h_12, hp⟩
   ·try simp at h_12
    obtain ⟨e_13, h_14, hp⟩ := zab hp
    have b_15 := at_lo h_14
    have b_16 := at_hi h_14
    try simp at b_15 b_16
    have c_17 := seg_at' h_14 0 2 (by decide) (ds := [.sl e_13.vars.length (encL e_13.vars), .sl e_13.next.length (encL e_13.next)]) rfl
    try simp at c_17
    obtain ⟨y_18, h_19, hp⟩ := zab hp
    have c_20 := C47_eq h_19
    simp at c_20
    try simp [h_4, q_11, h_12, b_15, b_16, c_17, c_20]
    rcases zad hp with ⟨h_21, hp⟩ | ⟨h_21, hp⟩
    ·try simp at h_21
     obtain ⟨e_22, h_23, hp⟩ := zab hp
     cases Option.some.inj (h_14.symm.trans h_23)
     have b_24 := at_lo h_14
     have b_25 := at_hi h_14
     try simp at b_24 b_25
     have c_26 := seg_at' h_14 0 2 (by decide) (ds := [.sl e_13.vars.length (encL e_13.vars), .sl e_13.next.length (encL e_13.next)]) rfl
     try simp at c_26
     obtain ⟨y_29, h_30, hp⟩ := zab hp
     have c_31 := C68_eq (.inr rfl) h_30
     simp at c_31
     cases hp
     try simp [h_4, q_11, h_12, h_21, b_24, b_25, c_26, c_31]
     refine zah ?_
     rw [I_7_]
     exact ⟨by simp [zac, zaa, h_4, q_11, h_12, h_21, b_24, b_25, c_26, c_31], NoBox.restrict (by intro k hk hb; simp at hk hb; simp [hk, hb, h_4, q_11, h_12, h_21, b_24, b_25, c_26, c_31, hn_10 k (by simp [hk, hb])])⟩
    ·try simp at h_21
     cases hp
     try simp [h_4, q_11, h_12, h_21]
     refine zan ?_
     rw [X_8_]
     exact ⟨_, rfl, by simp [zac, zaa, h_4, q_11, h_12, h_21], NoBox.restrict (by intro k hk hb; simp at hk hb; simp [hk, hb, h_4, q_11, h_12, h_21, hn_10 k (by simp [hk, hb])])⟩
   ·try simp at h_12
    cases hp
    try simp [h_4, q_11, h_12]
    refine zak ?_
    rw [X_8_]
    exact ⟨_, rfl, by simp [zac, zaa, h_4, q_11, h_12], NoBox.restrict (by intro k hk hb; simp at hk hb; simp [hk, hb, h_4, q_11, h_12, hn_10 k (by simp [hk, hb])])⟩
  ·intro out hX
   rw [X_8_] at hX
   rcases r_32 with r_32 | r_32
   ·simp only [Sum.elim_inl, Sum.elim_inr] at hX hp
    obtain ⟨σ_34, rfl, q_36, hn_35⟩ := hX
    cases hp
    simp [Goal, FnEnd, retR, rsrc, RSrc.val, nodupR, nodup, tupPart, h_4, q_36]
   ·simp only [Sum.elim_inl, Sum.elim_inr] at hX hp
    obtain ⟨σ_37, rfl, q_39, hn_38⟩ := hX
    try simp [h_4, q_39]
    obtain ⟨r_96, h_97, hp⟩ := zab hp
    obtain ⟨I_42, I_42_⟩ := exV fun (s_40 : (List TState) × Int) (σ : St) => (σ.env 2 = uP (1, 2) ∧ σ.env 6 = uL .own s_40.1 ∧ σ.env 8 = uI s_40.2 ∧ σ.mem (1, 2) = some [(.l .shr p_.vars.length (encL p_.vars)), (.s (.int .i64 p_.points)), (.l .shr p_.edges.length (encL p_.edges))]) ∧ NoBox [(1, 2)] σ.mem
    obtain ⟨X_43, X_43_⟩ := exV fun (r_96 : (List TState)) (out : Out) => ∃ σ : St, out = .exit 2 σ ∧ (σ.env 6 = uL .own r_96 ∧ σ.mem (1, 2) = some [(.l .shr p_.vars.length (encL p_.vars)), (.s (.int .i64 p_.points)), (.l .shr p_.edges.length (encL p_.edges))]) ∧ NoBox [(1, 2)] σ.mem
    refine loopP ({ hd := [2, 6, 8], bx := [11, 12], ex := [6], rt := [4, 5] }) I_42 X_43 h_97 (by exact rfl) ?_ ?_ ?_
    ·rw [I_42_]
     exact ⟨by simp [zac, zaa, h_4, q_39], NoBox.restrict (by intro k hk hb; simp at hk hb; simp [hk, hb, h_4, q_39, hn_38 k (by simp [hk, hb])])⟩
    ·intro s_40 σ_44 a_41 hI hp
     rw [I_42_] at hI
     obtain ⟨q_46, hn_45⟩ := hI
     try simp [h_4, q_46]
     rcases zad hp with ⟨h_47, hp⟩ | ⟨h_47, hp⟩
     ·try simp at h_47
      try simp [h_4, q_46, h_47]
      rcases zad hp with ⟨h_48, hp⟩ | ⟨h_48, hp⟩
      ·try simp at h_48
       obtain ⟨e_49, h_50, hp⟩ := zab hp
       have b_51 := at_lo h_50
       have b_52 := at_hi h_50
       try simp at b_51 b_52
       have c_53 := seg_at' h_50 0 1 (by decide) (ds := [.sc (.int .i64 e_49.point)]) rfl
       try simp at c_53
       obtain ⟨y_54, h_55, hp⟩ := zab hp
       have c_56 := C63_eq h_55
       simp at c_56
       try simp [h_4, q_46, h_47, h_48, b_51, b_52, c_53, c_56]
       obtain ⟨r_91, h_92, hp⟩ := zab hp
       obtain ⟨I_59, I_59_⟩ := exV fun (s_57 : (List TState) × Int) (σ : St) => (σ.env 2 = uP (1, 2) ∧ σ.env 6 = uL .own s_57.1 ∧ σ.env 8 = uI s_40.2 ∧ σ.env 9 = uL .own y_54 ∧ σ.env 10 = uI s_57.2 ∧ σ.mem (1, 2) = some [(.l .shr p_.vars.length (encL p_.vars)), (.s (.int .i64 p_.points)), (.l .shr p_.edges.length (encL p_.edges))]) ∧ NoBox [(1, 2)] σ.mem
       obtain ⟨X_60, X_60_⟩ := exV fun (r_91 : (List TState)) (out : Out) => ∃ σ : St, out = .exit 4 σ ∧ (σ.env 2 = uP (1, 2) ∧ σ.env 6 = uL .own r_91 ∧ σ.env 8 = uI s_40.2 ∧ σ.mem (1, 2) = some [(.l .shr p_.vars.length (encL p_.vars)), (.s (.int .i64 p_.points)), (.l .shr p_.edges.length (encL p_.edges))]) ∧ NoBox [(1, 2)] σ.mem
       refine loopP ({ hd := [2, 6, 8, 9, 10], bx := [11, 12], ex := [2, 6, 8], rt := [4, 5] }) I_59 X_60 h_92 (by exact rfl) ?_ ?_ ?_
       ·rw [I_59_]
        exact ⟨by simp [zac, zaa, h_4, q_46, h_47, h_48], NoBox.restrict (by intro k hk hb; simp at hk hb; simp [hk, hb, h_4, q_46, h_47, h_48, hn_45 k (by simp [hk, hb])])⟩
       ·intro s_57 σ_61 a_58 hI hp
        rw [I_59_] at hI
        obtain ⟨q_63, hn_62⟩ := hI
        try simp [h_4, h_47, h_48, q_63]
        rcases zad hp with ⟨h_64, hp⟩ | ⟨h_64, hp⟩
        ·try simp at h_64
         obtain ⟨e_65, h_66, hp⟩ := zab hp
         have b_67 := at_lo h_66
         have b_68 := at_hi h_66
         try simp at b_67 b_68
         have c_69 := seg_at' h_66 0 1 (by decide) (ds := [.sc (.int .i64 e_65)]) rfl
         try simp at c_69
         obtain ⟨e_70, h_71, hp⟩ := zab hp
         have b_72 := at_lo h_71
         have b_73 := at_hi h_71
         try simp at b_72 b_73
         have c_74 := seg_at' h_71 0 5 (by decide) (ds := [.sc (.int .i64 e_70.from_), .sc (.int .i64 e_70.to_), .sc (.int .i64 e_70.stmt.kind), .sc (.string e_70.stmt.a), .sc (.string e_70.stmt.b)]) rfl
         try simp at c_74
         have n_75 := hn_62 (1, 11) (by simp)
         obtain ⟨e_76, h_77, hp⟩ := zab hp
         have b_78 := at_lo h_77
         have b_79 := at_hi h_77
         try simp at b_78 b_79
         have c_80 := seg_at' h_77 1 2 (by decide) (ds := [.sl e_76.heap.vars.length (encL e_76.heap.vars), .sl e_76.heap.next.length (encL e_76.heap.next)]) rfl
         try simp at c_80
         obtain ⟨y_81, h_82, hp⟩ := zab hp
         have c_83 := C50_eq h_82
         simp at c_83
         have n_84 := hn_62 (1, 12) (by simp)
         try simp [h_4, h_47, h_48, q_63, h_64, b_67, b_68, c_69, b_72, b_73, c_74, n_75, b_78, b_79, c_80, c_83, n_84]
         rcases zad hp with ⟨h_85, hp⟩ | ⟨h_85, hp⟩
         ·try simp at h_85
          obtain ⟨y_88, h_89, hp⟩ := zab hp
          have c_90 := C68_eq (.inl rfl) h_89
          simp at c_90
          cases hp
          try simp [h_4, h_47, h_48, q_63, h_64, h_85, c_90]
          refine zah ?_
          rw [I_59_]
          exact ⟨by simp [zac, zaa, h_4, h_47, h_48, q_63, h_64, h_85, c_90], NoBox.restrict (by intro k hk hb; simp at hk hb; simp [hk, hb, h_4, h_47, h_48, q_63, h_64, h_85, c_90, hn_62 k (by simp [hk, hb])])⟩
         ·try simp at h_85
          cases hp
          try simp [h_4, h_47, h_48, q_63, h_64, h_85]
          refine zah ?_
          rw [I_59_]
          exact ⟨by simp [zac, zaa, h_4, h_47, h_48, q_63, h_64, h_85], NoBox.restrict (by intro k hk hb; simp at hk hb; simp [hk, hb, h_4, h_47, h_48, q_63, h_64, h_85, hn_62 k (by simp [hk, hb])])⟩
        ·try simp at h_64
         cases hp
         try simp [h_4, h_47, h_48, q_63, h_64]
         refine zak ?_
         rw [X_60_]
         exact ⟨_, rfl, by simp [zac, zaa, h_4, h_47, h_48, q_63, h_64], NoBox.restrict (by intro k hk hb; simp at hk hb; simp [hk, hb, h_4, h_47, h_48, q_63, h_64, hn_62 k (by simp [hk, hb])])⟩
       ·intro out hX
        rw [X_60_] at hX
        obtain ⟨σ_93, rfl, q_95, hn_94⟩ := hX
        cases hp
        try simp [h_4, h_47, h_48, q_95]
        refine zah ?_
        rw [I_42_]
        exact ⟨by simp [zac, zaa, h_4, h_47, h_48, q_95], NoBox.restrict (by intro k hk hb; simp at hk hb; simp [hk, hb, h_4, h_47, h_48, q_95, hn_94 k (by simp [hk, hb])])⟩
      ·try simp at h_48
       cases hp
       try simp [h_4, q_46, h_47, h_48]
       refine zak ?_
       rw [X_43_]
       exact ⟨_, rfl, by simp [zac, zaa, h_4, q_46, h_47, h_48], NoBox.restrict (by intro k hk hb; simp at hk hb; simp [hk, hb, h_4, q_46, h_47, h_48, hn_45 k (by simp [hk, hb])])⟩
     ·try simp at h_47
      cases hp
      try simp [h_4, q_46, h_47]
      refine zak ?_
      rw [X_43_]
      exact ⟨_, rfl, by simp [zac, zaa, h_4, q_46, h_47], NoBox.restrict (by intro k hk hb; simp at hk hb; simp [hk, hb, h_4, q_46, h_47, hn_45 k (by simp [hk, hb])])⟩
    ·intro out hX
     rw [X_43_] at hX
     obtain ⟨σ_98, rfl, q_100, hn_99⟩ := hX
     try simp [h_4, q_100]
     rcases zad hp with ⟨h_101, hp⟩ | ⟨h_101, hp⟩
     ·try simp at h_101
      cases hp
      simp [Goal, FnEnd, retR, rsrc, RSrc.val, nodupR, nodup, tupPart, h_4, q_100, h_101]
     ·try simp at h_101
      cases hp
      simp [Goal, FnEnd, retR, rsrc, RSrc.val, nodupR, nodup, tupPart, h_4, q_100, h_101]
 ·try simp at h_4
  cases hp
  simp [Goal, FnEnd, retR, rsrc, RSrc.val, nodupR, nodup, tupPart, h_4]
theorem pc29 : PC Tryz.prog 29 C29 := pc_of (g := g29) (ctxOK_ofO [(46, C46), (47, C47), (50, C50), (63, C63)] rfl ⟨pc46, pc47, pc50, pc63, trivial⟩ [(68, C68)] rfl ⟨po68, trivial⟩) (ent Tryz.func29) fun x y h => w29 h

def C65 : List AV → Option AV := specP (X := Int × Unit) fun x => spec_IsError x.1
theorem C65_eq {code} {y} (h : spec_IsError code = some y) : C65 [av .shr code] = some (Res.res y) := zag (x := (code, ())) h
def g65 : Cfg := { P := Tryz.prog, take := [], keep := [], gho := [], ctx := [(49, C49)] }
@[simp] theorem g65_s : g65.P = Tryz.prog ∧ g65.ctx = [(49, C49)] ∧ Pl0 g65 := by simp [g65]
theorem w65 {code} {y} (hp : spec_IsError code = some y) : ∃ m, callo g65 0 65 [av .shr code] mem0 = some (Res.res y, m) := by
 refine st0 [.tmp 2] Tryz.func65 ?_
 unfold spec_IsError at hp
 obtain ⟨y_1, h_2, hp⟩ := zab hp
 have c_3 := C49_eq h_2
 simp at c_3
 cases hp
 simp [Tryz.f65, Goal, FnEnd, c_3]
theorem pc65 : PC Tryz.prog 65 C65 := pc_of (g := g65) (zai _ g65_s.2.1 ⟨pc49, trivial⟩) (ent Tryz.func65) fun x y h => w65 h

def C25 : List AV → Option AV := specP (X := TProgram × (List THeap) × Unit) fun x => spec_CountFailures x.1 x.2.1
theorem C25_eq {p_ start} {y} (h : spec_CountFailures p_ start = some y) : C25 [av .shr p_, av .shr start] = some (Res.res y) := zag (x := (p_, start, ())) h
def g25 : Cfg := { P := Tryz.prog, take := [(25, 13), (25, 40)], keep := [((25, 6), { hd := [2, 5, 7, 8], bx := [11], ex := [7], rt := [4] }), ((25, 10), { hd := [2, 5, 7, 8, 9, 10], bx := [11], ex := [2, 5, 7, 8], rt := [4] })], gho := [], ctx := [(29, C29), (50, C50), (63, C63), (64, C64), (65, C65)] }
@[simp] theorem g25_s : g25.P = Tryz.prog ∧ g25.ctx = [(29, C29), (50, C50), (63, C63), (64, C64), (65, C65)] ∧ Pl1 g25 ∧ g25.take = [(25, 13), (25, 40)] := by simp [g25]
theorem w25 {p_ start} {y} (hp : spec_CountFailures p_ start = some y) : ∃ m, callo g25 0 25 [av .shr p_, av .shr start] mem0 = some (Res.res y, m) := by
 refine st0 [.tmp 4] Tryz.func25 ?_
 unfold spec_CountFailures at hp
 obtain ⟨y_1, h_2, hp⟩ := zab hp
 have c_3 := C29_eq h_2
 simp at c_3
 simp [Tryz.f25, c_3]
 rcases zad hp with ⟨h_4, hp⟩ | ⟨h_4, hp⟩
 ·try simp at h_4
  try simp [h_4]
  obtain ⟨r_59, h_60, hp⟩ := zab hp
  obtain ⟨I_7, I_7_⟩ := exV fun (s_5 : Int × Int) (σ : St) => (σ.env 2 = uP (1, 2) ∧ σ.env 5 = uL .own y_1.1 ∧ σ.env 7 = uI s_5.1 ∧ σ.env 8 = uI s_5.2 ∧ σ.mem (1, 2) = some [(.l .shr p_.vars.length (encL p_.vars)), (.s (.int .i64 p_.points)), (.l .shr p_.edges.length (encL p_.edges))]) ∧ NoBox [(1, 2)] σ.mem
  obtain ⟨X_8, X_8_⟩ := exV fun (r_59 : Int) (out : Out) => ∃ σ : St, out = .exit 0 σ ∧ (σ.env 7 = uI r_59 ∧ σ.mem (1, 2) = some [(.l .shr p_.vars.length (encL p_.vars)), (.s (.int .i64 p_.points)), (.l .shr p_.edges.length (encL p_.edges))]) ∧ NoBox [(1, 2)] σ.mem
  refine loopP ({ hd := [2, 5, 7, 8], bx := [11], ex := [7], rt := [4] }) I_7 X_8 h_60 (by exact rfl) ?_ ?_ ?_
  ·rw [I_7_]
   exact ⟨by simp [zac, zaa, h_4], NoBox.restrict (by intro k hk hb; simp at hk hb; simp [hk, hb, h_4])⟩
  ·intro s_5 σ_9 a_6 hI hp
   rw [I_7_] at hI
   obtain ⟨q_11, hn_10⟩ := hI
   try simp [h_4, q_11]
   rcases zad hp with ⟨h_12, hp⟩ | ⟨h_12, hp⟩
   ·try simp at h_12
    obtain ⟨e_13, h_14, hp⟩ := zab hp
    have b_15 := at_lo h_14
    have b_16 := at_hi h_14
    try simp at b_15 b_16
    have c_17 := seg_at' h_14 0 1 (by decide) (ds := [.sc (.int .i64 e_13.point)]) rfl
    try simp at c_17
    obtain ⟨y_18, h_19, hp⟩ := zab hp
    have c_20 := C63_eq h_19
    simp at c_20
    try simp [h_4, q_11, h_12, b_15, b_16, c_17, c_20]
    obtain ⟨r_54, h_55, hp⟩ := zab hp
    obtain ⟨I_23, I_23_⟩ := exV fun (s_21 : Int × Int) (σ : St) => (σ.env 2 = uP (1, 2) ∧ σ.env 5 = uL .own y_1.1 ∧ σ.env 7 = uI s_21.1 ∧ σ.env 8 = uI s_5.2 ∧ σ.env 9 = uL .own y_18 ∧ σ.env 10 = uI s_21.2 ∧ σ.mem (1, 2) = some [(.l .shr p_.vars.length (encL p_.vars)), (.s (.int .i64 p_.points)), (.l .shr p_.edges.length (encL p_.edges))]) ∧ NoBox [(1, 2)] σ.mem
    obtain ⟨X_24, X_24_⟩ := exV fun (r_54 : Int) (out : Out) => ∃ σ : St, out = .exit 2 σ ∧ (σ.env 2 = uP (1, 2) ∧ σ.env 5 = uL .own y_1.1 ∧ σ.env 7 = uI r_54 ∧ σ.env 8 = uI s_5.2 ∧ σ.mem (1, 2) = some [(.l .shr p_.vars.length (encL p_.vars)), (.s (.int .i64 p_.points)), (.l .shr p_.edges.length (encL p_.edges))]) ∧ NoBox [(1, 2)] σ.mem
    refine loopP ({ hd := [2, 5, 7, 8, 9, 10], bx := [11], ex := [2, 5, 7, 8], rt := [4] }) I_23 X_24 h_55 (by exact rfl) ?_ ?_ ?_
    ·rw [I_23_]
     exact ⟨by simp [zac, zaa, h_4, q_11, h_12], NoBox.restrict (by intro k hk hb; simp at hk hb; simp [hk, hb, h_4, q_11, h_12, hn_10 k (by simp [hk, hb])])⟩
    ·intro s_21 σ_25 a_22 hI hp
     rw [I_23_] at hI
     obtain ⟨q_27, hn_26⟩ := hI
     try simp [h_4, h_12, q_27]
     rcases zad hp with ⟨h_28, hp⟩ | ⟨h_28, hp⟩
     ·try simp at h_28
      obtain ⟨e_29, h_30, hp⟩ := zab hp
      have b_31 := at_lo h_30
      have b_32 := at_hi h_30
      try simp at b_31 b_32
      have c_33 := seg_at' h_30 0 1 (by decide) (ds := [.sc (.int .i64 e_29)]) rfl
      try simp at c_33
      obtain ⟨e_34, h_35, hp⟩ := zab hp
      have b_36 := at_lo h_35
      have b_37 := at_hi h_35
      try simp at b_36 b_37
      have c_38 := seg_at' h_35 2 3 (by decide) (ds := [.sc (.int .i64 e_34.stmt.kind), .sc (.string e_34.stmt.a), .sc (.string e_34.stmt.b)]) rfl
      try simp at c_38
      obtain ⟨e_39, h_40, hp⟩ := zab hp
      cases Option.some.inj (h_14.symm.trans h_40)
      have b_41 := at_lo h_14
      have b_42 := at_hi h_14
      try simp at b_41 b_42
      have c_43 := seg_at' h_14 1 2 (by decide) (ds := [.sl e_13.heap.vars.length (encL e_13.heap.vars), .sl e_13.heap.next.length (encL e_13.heap.next)]) rfl
      try simp at c_43
      obtain ⟨y_44, h_45, hp⟩ := zab hp
      have c_46 := C50_eq h_45
      simp at c_46
      have n_47 := hn_26 (1, 11) (by simp)
      obtain ⟨y_48, h_49, hp⟩ := zab hp
      have c_50 := C65_eq h_49
      simp at c_50
      obtain ⟨y_51, h_52, hp⟩ := zab hp
      have c_53 := C64_eq h_52
      simp at c_53
      cases hp
      try simp [h_4, h_12, q_27, h_28, b_31, b_32, c_33, b_36, b_37, c_38, b_41, b_42, c_43, c_46, n_47, c_50, c_53]
      refine zah ?_
      rw [I_23_]
      exact ⟨by simp [zac, zaa, h_4, h_12, q_27, h_28, b_31, b_32, c_33, b_36, b_37, c_38, b_41, b_42, c_43, c_46, n_47, c_50, c_53], NoBox.restrict (by intro k hk hb; simp at hk hb; simp [hk, hb, h_4, h_12, q_27, h_28, b_31, b_32, c_33, b_36, b_37, c_38, b_41, b_42, c_43, c_46, n_47, c_50, c_53, hn_26 k (by simp [hk, hb])])⟩
     ·try simp at h_28
      cases hp
      try simp [h_4, h_12, q_27, h_28]
      refine zak ?_
      rw [X_24_]
      exact ⟨_, rfl, by simp [zac, zaa, h_4, h_12, q_27, h_28], NoBox.restrict (by intro k hk hb; simp at hk hb; simp [hk, hb, h_4, h_12, q_27, h_28, hn_26 k (by simp [hk, hb])])⟩
    ·intro out hX
     rw [X_24_] at hX
     obtain ⟨σ_56, rfl, q_58, hn_57⟩ := hX
     cases hp
     try simp [h_4, h_12, q_58]
     refine zah ?_
     rw [I_7_]
     exact ⟨by simp [zac, zaa, h_4, h_12, q_58], NoBox.restrict (by intro k hk hb; simp at hk hb; simp [hk, hb, h_4, h_12, q_58, hn_57 k (by simp [hk, hb])])⟩
   ·try simp at h_12
    cases hp
    try simp [h_4, q_11, h_12]
    refine zak ?_
    rw [X_8_]
    exact ⟨_, rfl, by simp [zac, zaa, h_4, q_11, h_12], NoBox.restrict (by intro k hk hb; simp at hk hb; simp [hk, hb, h_4, q_11, h_12, hn_10 k (by simp [hk, hb])])⟩
  ·intro out hX
   rw [X_8_] at hX
   obtain ⟨σ_61, rfl, q_63, hn_62⟩ := hX
   cases hp
   simp [Goal, FnEnd, h_4, q_63]
 ·try simp at h_4
  cases hp
  simp [Goal, FnEnd, h_4]
theorem pc25 : PC Tryz.prog 25 C25 := pc_of (g := g25) (zai _ g25_s.2.1 ⟨pc29, pc50, pc63, pc64, pc65, trivial⟩) (ent Tryz.func25) fun x y h => w25 h

def C56 : List AV → Option AV := specP (X := Int × Int × Int × Unit) fun x => impl_within x.1 x.2.1 x.2.2.1
theorem C56_eq {n_ low high} {y} (h : impl_within n_ low high = some y) : C56 [av .shr n_, av .shr low, av .shr high] = some (Res.res y) := zag (x := (n_, low, high, ())) h
def g56 : Cfg := { P := Tryz.prog, take := [], keep := [], gho := [], ctx := [] }
@[simp] theorem g56_s : g56.P = Tryz.prog ∧ g56.ctx = [] ∧ Pl0 g56 := by simp [g56]
theorem w56 {n_ low high} {y} (hp : impl_within n_ low high = some y) : ∃ m, callo g56 0 56 [av .shr n_, av .shr low, av .shr high] mem0 = some (Res.res y, m) := by
 refine st0 [.tmp 6] Tryz.func56 ?_
 unfold impl_within at hp
 simp [Tryz.f56]
 rcases zad hp with ⟨h_1, hp⟩ | ⟨h_1, hp⟩
 ·try simp at h_1
  cases hp
  simp [Goal, FnEnd, h_1]
 ·try simp at h_1
  cases hp
  simp [Goal, FnEnd, h_1]
theorem pc56 : PC Tryz.prog 56 C56 := pc_of (g := g56) (zai [] rfl trivial) (ent Tryz.func56) fun x y h => w56 h

def C132 : List AV → Option AV := specP (X := ByteArray × Unit) fun x => impl_IsName x.1
theorem C132_eq {s} {y} (h : impl_IsName s = some y) : C132 [av .shr s] = some (Res.res y) := zag (x := (s, ())) h
def g132 : Cfg := { P := Tryz.prog, take := [], keep := [((132, 2), { hd := [0, 5, 6], bx := [], ex := [0], rt := [2] })], gho := [], ctx := [(56, C56)] }
@[simp] theorem g132_s : g132.P = Tryz.prog ∧ g132.ctx = [(56, C56)] ∧ Pl0 g132 := by simp [g132]
theorem w132 {s} {y} (hp : impl_IsName s = some y) : ∃ m, callo g132 0 132 [av .shr s] mem0 = some (Res.res y, m) := by
 refine st0 [.tmp 2] Tryz.func132 ?_
 unfold impl_IsName at hp
 simp [Tryz.f132]
 obtain ⟨r_15, h_16, hp⟩ := zab hp
 obtain ⟨I_3, I_3_⟩ := exV fun (s_1 : Int) (σ : St) => (σ.env 0 = .one (.s (.string s)) ∧ σ.env 5 = uI (s.size : Int) ∧ σ.env 6 = uI s_1) ∧ σ.mem = mem0
 obtain ⟨X_4, X_4_⟩ := exV fun (r_15 : (Unit) ⊕ (Unit)) (out : Out) => Sum.elim (fun r_15 => ∃ σ : St, out = .ret σ ∧ σ.env 2 = uB false ∧ σ.mem = mem0) (fun r_15 => ∃ σ : St, out = .exit 0 σ ∧ σ.env 0 = .one (.s (.string s)) ∧ σ.mem = mem0) r_15
 refine loopP ({ hd := [0, 5, 6], bx := [], ex := [0], rt := [2] }) I_3 X_4 h_16 (by exact rfl) ?_ ?_ ?_
 ·rw [I_3_]
  exact ⟨by simp [zac, zaa], by simp [zaa]⟩
 ·intro s_1 σ_5 a_2 hI hp
  rw [I_3_] at hI
  obtain ⟨q_7, q_6⟩ := hI
  try simp [q_7, q_6]
  rcases zad hp with ⟨h_8, hp⟩ | ⟨h_8, hp⟩
  ·try simp at h_8
   obtain ⟨e_9, h_10, hp⟩ := zab hp
   have c_11 := idx_str Tryz.underlying9 h_10
   try simp [q_7, q_6, h_8, c_11]
   rcases zad hp with ⟨h_12, hp⟩ | ⟨h_12, hp⟩
   ·try simp at h_12
    cases hp
    try simp [q_7, q_6, h_8, h_12]
    refine zan ?_
    rw [X_4_]
    exact ⟨_, rfl, by simp [zac, zaa, q_7, q_6, h_8, h_12], by simp [zaa, q_7, q_6, h_8, h_12]⟩
   ·try simp at h_12
    obtain ⟨_, h_13, hp⟩ := zab hp
    cases Option.some.inj (h_10.symm.trans h_13)
    try simp [q_7, q_6, h_8, h_12, c_11]
    rcases zad hp with ⟨h_14, hp⟩ | ⟨h_14, hp⟩
    ·try simp at h_14
     cases hp
     try simp [q_7, q_6, h_8, h_12, h_14]
     refine zan ?_
     rw [X_4_]
     exact ⟨_, rfl, by simp [zac, zaa, q_7, q_6, h_8, h_12, h_14], by simp [zaa, q_7, q_6, h_8, h_12, h_14]⟩
    ·try simp at h_14
     cases hp
     try simp [q_7, q_6, h_8, h_12, h_14]
     refine zah ?_
     rw [I_3_]
     exact ⟨by simp [zac, zaa, q_7, q_6, h_8, h_12, h_14], by simp [zaa, q_7, q_6, h_8, h_12, h_14]⟩
  ·try simp at h_8
   cases hp
   try simp [q_7, q_6, h_8]
   refine zak ?_
   rw [X_4_]
   exact ⟨_, rfl, by simp [zac, zaa, q_7, q_6, h_8], by simp [zaa, q_7, q_6, h_8]⟩
 ·intro out hX
  rw [X_4_] at hX
  rcases r_15 with r_15 | r_15
  ·simp only [Sum.elim_inl, Sum.elim_inr] at hX hp
   obtain ⟨σ_17, rfl, q_19, q_18⟩ := hX
   cases hp
   simp [Goal, FnEnd, q_19, q_18]
  ·simp only [Sum.elim_inl, Sum.elim_inr] at hX hp
   obtain ⟨σ_20, rfl, q_22, q_21⟩ := hX
   obtain ⟨y_23, h_24, hp⟩ := zab hp
   have c_25 := C56_eq h_24
   simp at c_25
   cases hp
   simp [Goal, FnEnd, q_22, q_21, c_25]
theorem pc132 : PC Tryz.prog 132 C132 := pc_of (g := g132) (zai _ g132_s.2.1 ⟨pc56, trivial⟩) (ent Tryz.func132) fun x y h => w132 h

def C141 : List AV → Option AV := specP (X := (List ByteArray) × ByteArray × Unit) fun x => slices_Index_string x.1 x.2.1
theorem C141_eq {s v} {y} (h : slices_Index_string s v = some y) : C141 [av .shr s, av .shr v] = some (Res.res y) := zag (x := (s, v, ())) h
def g141 : Cfg := { P := Tryz.prog, take := [], keep := [((141, 2), { hd := [0, 1, 7, 8], bx := [], ex := [], rt := [4] })], gho := [], ctx := [] }
@[simp] theorem g141_s : g141.P = Tryz.prog ∧ g141.ctx = [] ∧ Pl0 g141 := by simp [g141]
theorem w141 {s v} {y} (hp : slices_Index_string s v = some y) : ∃ m, callo g141 0 141 [av .shr s, av .shr v] mem0 = some (Res.res y, m) := by
 refine st0 [.tmp 4] Tryz.func141 ?_
 unfold slices_Index_string at hp
 simp [Tryz.f141]
 obtain ⟨r_15, h_16, hp⟩ := zab hp
 obtain ⟨I_3, I_3_⟩ := exV fun (s_1 : Int) (σ : St) => (σ.env 0 = uL .shr s ∧ σ.env 1 = .one (.s (.string v)) ∧ σ.env 7 = uI (s.length : Int) ∧ σ.env 8 = uI s_1) ∧ σ.mem = mem0
 obtain ⟨X_4, X_4_⟩ := exV fun (r_15 : (Int) ⊕ (Unit)) (out : Out) => Sum.elim (fun r_15 => ∃ σ : St, out = .ret σ ∧ σ.env 4 = uI r_15 ∧ σ.mem = mem0) (fun r_15 => ∃ σ : St, out = .exit 0 σ ∧ σ.mem = mem0) r_15
 refine loopP ({ hd := [0, 1, 7, 8], bx := [], ex := [], rt := [4] }) I_3 X_4 h_16 (by exact rfl) ?_ ?_ ?_
 ·rw [I_3_]
  exact ⟨by simp [zac, zaa], by simp [zaa]⟩
 ·intro s_1 σ_5 a_2 hI hp
  rw [I_3_] at hI
  obtain ⟨q_7, q_6⟩ := hI
  try simp [q_7, q_6]
  rcases zad hp with ⟨h_8, hp⟩ | ⟨h_8, hp⟩
  ·try simp at h_8
   obtain ⟨e_9, h_10, hp⟩ := zab hp
   have b_11 := at_lo h_10
   have b_12 := at_hi h_10
   try simp at b_11 b_12
   have c_13 := seg_at' h_10 0 1 (by decide) (ds := [.sc (.string e_9)]) rfl
   try simp at c_13
   try simp [q_7, q_6, h_8, b_11, b_12, c_13]
   rcases zad hp with ⟨h_14, hp⟩ | ⟨h_14, hp⟩
   ·try simp at h_14
    cases hp
    try simp [q_7, q_6, h_8, h_14]
    refine zan ?_
    rw [X_4_]
    exact ⟨_, rfl, by simp [zac, zaa, q_7, q_6, h_8, h_14], by simp [zaa, q_7, q_6, h_8, h_14]⟩
   ·try simp at h_14
    cases hp
    try simp [q_7, q_6, h_8, h_14]
    refine zah ?_
    rw [I_3_]
    exact ⟨by simp [zac, zaa, q_7, q_6, h_8, h_14], by simp [zaa, q_7, q_6, h_8, h_14]⟩
  ·try simp at h_8
   cases hp
   try simp [q_7, q_6, h_8]
   refine zak ?_
   rw [X_4_]
   exact ⟨_, rfl, by simp [zaa, q_7, q_6, h_8]⟩
 ·intro out hX
  rw [X_4_] at hX
  rcases r_15 with r_15 | r_15
  ·simp only [Sum.elim_inl, Sum.elim_inr] at hX hp
   obtain ⟨σ_17, rfl, q_19, q_18⟩ := hX
   cases hp
   simp [Goal, FnEnd, q_19, q_18]
  ·simp only [Sum.elim_inl, Sum.elim_inr] at hX hp
   obtain ⟨σ_20, rfl, q_21⟩ := hX
   cases hp
   simp [Goal, FnEnd, q_21]
theorem pc141 : PC Tryz.prog 141 C141 := pc_of (g := g141) (zai [] rfl trivial) (ent Tryz.func141) fun x y h => w141 h

def C98 : List AV → Option AV := specP (X := (List ByteArray) × ByteArray × Unit) fun x => impl_IndexOf x.1 x.2.1
theorem C98_eq {list s} {y} (h : impl_IndexOf list s = some y) : C98 [av .shr list, av .shr s] = some (Res.res y) := zag (x := (list, s, ())) h
def g98 : Cfg := { P := Tryz.prog, take := [], keep := [], gho := [], ctx := [(141, C141)] }
@[simp] theorem g98_s : g98.P = Tryz.prog ∧ g98.ctx = [(141, C141)] ∧ Pl0 g98 := by simp [g98]
theorem w98 {list s} {y} (hp : impl_IndexOf list s = some y) : ∃ m, callo g98 0 98 [av .shr list, av .shr s] mem0 = some (Res.res y, m) := by
 refine st0 [.tmp 4] Tryz.func98 ?_
 unfold impl_IndexOf at hp
 obtain ⟨y_1, h_2, hp⟩ := zab hp
 have c_3 := C141_eq h_2
 simp at c_3
 cases hp
 simp [Tryz.f98, Goal, FnEnd, c_3]
theorem pc98 : PC Tryz.prog 98 C98 := pc_of (g := g98) (zai _ g98_s.2.1 ⟨pc141, trivial⟩) (ent Tryz.func98) fun x y h => w98 h

def C90 : List AV → Option AV := specP (X := (List ByteArray) × Unit) fun x => impl_AreVars x.1
theorem C90_eq {list} {y} (h : impl_AreVars list = some y) : C90 [av .shr list] = some (Res.res y) := zag (x := (list, ())) h
def g90 : Cfg := { P := Tryz.prog, take := [], keep := [((90, 2), { hd := [0, 5, 6, 7], bx := [], ex := [0], rt := [2] })], gho := [], ctx := [(56, C56), (98, C98), (132, C132)] }
@[simp] theorem g90_s : g90.P = Tryz.prog ∧ g90.ctx = [(56, C56), (98, C98), (132, C132)] ∧ Pl0 g90 := by simp [g90]
theorem w90 {list} {y} (hp : impl_AreVars list = some y) : ∃ m, callo g90 0 90 [av .shr list] mem0 = some (Res.res y, m) := by
 refine st0 [.tmp 2] Tryz.func90 ?_
 unfold impl_AreVars at hp
 simp [Tryz.f90]
 obtain ⟨r_22, h_23, hp⟩ := zab hp
 obtain ⟨I_3, I_3_⟩ := exV fun (s_1 : Int) (σ : St) => (σ.env 0 = uL .shr list ∧ σ.env 5 = uL .shr list ∧ σ.env 6 = uI (list.length : Int) ∧ σ.env 7 = uI s_1) ∧ σ.mem = mem0
 obtain ⟨X_4, X_4_⟩ := exV fun (r_22 : (Unit) ⊕ (Unit)) (out : Out) => Sum.elim (fun r_22 => ∃ σ : St, out = .ret σ ∧ σ.env 2 = uB false ∧ σ.mem = mem0) (fun r_22 => ∃ σ : St, out = .exit 0 σ ∧ σ.env 0 = uL .shr list ∧ σ.mem = mem0) r_22
 refine loopP ({ hd := [0, 5, 6, 7], bx := [], ex := [0], rt := [2] }) I_3 X_4 h_23 (by exact rfl) ?_ ?_ ?_
 ·rw [I_3_]
  exact ⟨by simp [zac, zaa], by simp [zaa]⟩
 ·intro s_1 σ_5 a_2 hI hp
  rw [I_3_] at hI
  obtain ⟨q_7, q_6⟩ := hI
  try simp [q_7, q_6]
  rcases zad hp with ⟨h_8, hp⟩ | ⟨h_8, hp⟩
  ·try simp at h_8
   obtain ⟨e_9, h_10, hp⟩ := zab hp
   have b_11 := at_lo h_10
   have b_12 := at_hi h_10
   try simp at b_11 b_12
   have c_13 := seg_at' h_10 0 1 (by decide) (ds := [.sc (.string e_9)]) rfl
   try simp at c_13
   obtain ⟨y_14, h_15, hp⟩ := zab hp
   have c_16 := C132_eq h_15
   simp at c_16
   try simp [q_7, q_6, h_8, b_11, b_12, c_13, c_16]
   rcases zad hp with ⟨h_17, hp⟩ | ⟨h_17, hp⟩
   ·try simp at h_17
    obtain ⟨y_18, h_19, hp⟩ := zab hp
    have c_20 := C98_eq h_19
    simp at c_20
    try simp [q_7, q_6, h_8, h_17, c_20]
    rcases zad hp with ⟨h_21, hp⟩ | ⟨h_21, hp⟩
    ·try simp at h_21
     cases hp
     try simp [q_7, q_6, h_8, h_17, h_21]
     refine zan ?_
     rw [X_4_]
     exact ⟨_, rfl, by simp [zac, zaa, q_7, q_6, h_8, h_17, h_21], by simp [zaa, q_7, q_6, h_8, h_17, h_21]⟩
    ·try simp at h_21
     cases hp
     try simp [q_7, q_6, h_8, h_17, h_21]
     refine zah ?_
     rw [I_3_]
     exact ⟨by simp [zac, zaa, q_7, q_6, h_8, h_17, h_21], by simp [zaa, q_7, q_6, h_8, h_17, h_21]⟩
   ·try simp at h_17
    cases hp
    try simp [q_7, q_6, h_8, h_17]
    refine zan ?_
    rw [X_4_]
    exact ⟨_, rfl, by simp [zac, zaa, q_7, q_6, h_8, h_17], by simp [zaa, q_7, q_6, h_8, h_17]⟩
  ·try simp at h_8
   cases hp
   try simp [q_7, q_6, h_8]
   refine zak ?_
   rw [X_4_]
   exact ⟨_, rfl, by simp [zac, zaa, q_7, q_6, h_8], by simp [zaa, q_7, q_6, h_8]⟩
 ·intro out hX
  rw [X_4_] at hX
  rcases r_22 with r_22 | r_22
  ·simp only [Sum.elim_inl, Sum.elim_inr] at hX hp
   obtain ⟨σ_24, rfl, q_26, q_25⟩ := hX
   cases hp
   simp [Goal, FnEnd, q_26, q_25]
  ·simp only [Sum.elim_inl, Sum.elim_inr] at hX hp
   obtain ⟨σ_27, rfl, q_29, q_28⟩ := hX
   obtain ⟨y_30, h_31, hp⟩ := zab hp
   have c_32 := C56_eq h_31
   simp at c_32
   cases hp
   simp [Goal, FnEnd, q_29, q_28, c_32]
theorem pc90 : PC Tryz.prog 90 C90 := pc_of (g := g90) (zai _ g90_s.2.1 ⟨pc56, pc98, pc132, trivial⟩) (ent Tryz.func90) fun x y h => w90 h

def C136 : List AV → Option AV := specP (X := (List ByteArray) × ByteArray × Unit) fun x => slices_Contains_string x.1 x.2.1
theorem C136_eq {s v} {y} (h : slices_Contains_string s v = some y) : C136 [av .shr s, av .shr v] = some (Res.res y) := zag (x := (s, v, ())) h
def g136 : Cfg := { P := Tryz.prog, take := [], keep := [], gho := [], ctx := [(141, C141)] }
@[simp] theorem g136_s : g136.P = Tryz.prog ∧ g136.ctx = [(141, C141)] ∧ Pl0 g136 := by simp [g136]
theorem w136 {s v} {y} (hp : slices_Contains_string s v = some y) : ∃ m, callo g136 0 136 [av .shr s, av .shr v] mem0 = some (Res.res y, m) := by
 refine st0 [.tmp 4] Tryz.func136 ?_
 unfold slices_Contains_string at hp
 obtain ⟨y_1, h_2, hp⟩ := zab hp
 have c_3 := C141_eq h_2
 simp at c_3
 cases hp
 simp [Tryz.f136, Goal, FnEnd, c_3]
theorem pc136 : PC Tryz.prog 136 C136 := pc_of (g := g136) (zai _ g136_s.2.1 ⟨pc141, trivial⟩) (ent Tryz.func136) fun x y h => w136 h

def C153 : List AV → Option AV := specP (X := Int × Unit) fun x => impl_NamesOf x.1
theorem C153_eq {kind} {y} (h : impl_NamesOf kind = some y) : C153 [av .shr kind] = some (Res.res y) := zag (x := (kind, ())) h
def g153 : Cfg := { P := Tryz.prog, take := [], keep := [], gho := [], ctx := [(56, C56)] }
@[simp] theorem g153_s : g153.P = Tryz.prog ∧ g153.ctx = [(56, C56)] ∧ Pl0 g153 := by simp [g153]
theorem w153 {kind} {y} (hp : impl_NamesOf kind = some y) : ∃ m, callo g153 0 153 [av .shr kind] mem0 = some (Res.res y, m) := by
 refine st0 [.tmp 2] Tryz.func153 ?_
 unfold impl_NamesOf at hp
 obtain ⟨y_1, h_2, hp⟩ := zab hp
 have c_3 := C56_eq h_2
 simp at c_3
 simp [Tryz.f153, c_3]
 rcases zad hp with ⟨h_4, hp⟩ | ⟨h_4, hp⟩
 ·try simp at h_4
  obtain ⟨e_5, h_6, hp⟩ := zab hp
  have b_7 := at_lo h_6
  have b_8 := at_hi h_6
  try simp at b_7 b_8
  have c_9 := seg_at' h_6 0 1 (by decide) (ds := [.sc (.int .i64 e_5)]) rfl
  try simp at c_9
  cases hp
  simp [Goal, FnEnd, h_4, b_7, b_8, c_9]
 ·try simp at h_4
  cases hp
  simp [Goal, FnEnd, h_4]
theorem pc153 : PC Tryz.prog 153 C153 := pc_of (g := g153) (zai _ g153_s.2.1 ⟨pc56, trivial⟩) (ent Tryz.func153) fun x y h => w153 h

abbrev G134 (g : Cfg) : Prop := Has Tryz.prog g 134 Tryz.f134 [] [(3, { hd := [1, 5, 15, 16, 17], bx := [], ex := [5], rt := [4] })] [(153, C153)] []
theorem wI134 {g : Cfg} (G : G134 g) {d : Nat} {mem : Mem} (hT : Tight d mem)  {s : TStmt} {accept : (ByteArray → Option (Bool))} {fk_accept : Nat} {caps_accept : List (Key × Nat)} (hl_accept : ∀ c ∈ caps_accept, c.1.1 ≤ d) (hc_accept : Clo g d mem fk_accept caps_accept fun x : ByteArray × Unit => accept x.1) {y} (hp : impl_Stmt_hasNames s accept = some y) : callo g d 134 [av .shr s, .one (.fn fk_accept caps_accept)] mem = some (Res.res y, mem) := by
 have gP := G.P; have gt := G.tk; have gr := G.ro; have gg := G.gh
 have k_3 := G.kp (3, { hd := [1, 5, 15, 16, 17], bx := [], ex := [5], rt := [4] }) (by simp)
 have c_153 := G.cs (153, C153) (by simp)
 have hT2 : memKill (fun k => decide (d < k.1)) mem = mem := hT
 have hm0 : ∀ t, mem (d + 1, t) = none := fun t => hT.none (by simp)
 refine start_in (Tryz.f134.body.getD .skip) [.tmp 4] G Tryz.func134 (by kernel_rfl) (by simp [Tryz.ntmps134]) rfl ?_
 unfold impl_Stmt_hasNames at hp
 obtain ⟨y_1, h_2, hp⟩ := zab hp
 have c_3 := C153_eq h_2
 simp at c_3
 simp [Tryz.f134, gP, gt, gr, gg, hm0, c_153, c_3]
 obtain ⟨r_28, h_29, hp⟩ := zab hp
 obtain ⟨I_6, I_6_⟩ := exV fun (s_4 : Int) (σ : St) => (σ.env 5 = uI y_1 ∧ σ.env 15 = uL .own [s.a, s.b] ∧ σ.env 16 = uI ([s.a, s.b].length : Int) ∧ σ.env 17 = uI s_4 ∧ σ.mem (d + 1, 2) = some [(.s (.int .i64 s.kind)), (.s (.string s.a)), (.s (.string s.b))]) ∧ σ.env 1 = .one (.fn fk_accept caps_accept) ∧ Tight (d + 1) σ.mem ∧ Agree d mem σ.mem ∧ NoBoxD d [(d + 1, 2)] σ.mem
 obtain ⟨X_7, X_7_⟩ := exV fun (r_28 : (Unit) ⊕ (Unit)) (out : Out) => Sum.elim (fun r_28 => ∃ σ : St, out = .ret σ ∧ (σ.env 4 = uB false ∧ σ.mem (d + 1, 2) = some [(.s (.int .i64 s.kind)), (.s (.string s.a)), (.s (.string s.b))]) ∧ Tight (d + 1) σ.mem ∧ Agree d mem σ.mem ∧ NoBoxD d [(d + 1, 2)] σ.mem) (fun r_28 => ∃ σ : St, out = .exit 0 σ ∧ (σ.env 5 = uI y_1 ∧ σ.mem (d + 1, 2) = some [(.s (.int .i64 s.kind)), (.s (.string s.a)), (.s (.string s.b))]) ∧ Tight (d + 1) σ.mem ∧ Agree d mem σ.mem ∧ NoBoxD d [(d + 1, 2)] σ.mem) r_28
 refine loopP ({ hd := [1, 5, 15, 16, 17], bx := [], ex := [5], rt := [4] }) I_6 X_7 h_29 (by exact k_3) ?_ ?_ ?_
 ·rw [I_6_]
  exact ⟨by simp [zac, zaa, gP, gt, gr, gg, hm0, c_153], by simp [zac, gP, gt, gr, gg, hm0, c_153] <;> first | (intro x x1 x2 hx; have h0 := hl_accept _ hx; simp at h0; omega) | (intro x hx; have h0 := hl_accept _ hx; simp at h0; omega), (by repeat (first | exact zaf _ | exact hT.up | exact hT | refine Tight.restrict ?_ | refine Tight.upd ?_ (by simp) (by simp) | refine Tight.killB ?_ | refine zaj ?_)), (by repeat (first | exact fun k hk => rfl | refine Agree.restrict hT ?_ | refine Agree.upd ?_ (by simp))), NoBoxD.restrict (by intro k hd hk hb; simp at hk hb; simp [hk, hb, gP, gt, gr, gg, hm0, c_153, hT.none hd])⟩
 ·intro s_4 σ_8 a_5 hI hp
  rw [I_6_] at hI
  obtain ⟨q_13, q_9, ht_10, ha_11, hn_12⟩ := hI
  try simp [gP, gt, gr, gg, hm0, c_153, q_13, q_9]
  rcases zad hp with ⟨h_14, hp⟩ | ⟨h_14, hp⟩
  ·try simp at h_14
   obtain ⟨e_15, h_16, hp⟩ := zab hp
   have b_17 := at_lo h_16
   have b_18 := at_hi h_16
   try simp at b_17 b_18
   have c_19 := seg_at' h_16 0 1 (by decide) (ds := [.sc (.string e_15)]) rfl
   try simp at c_19
   try simp [gP, gt, gr, gg, hm0, c_153, q_13, q_9, h_14, b_17, b_18, c_19]
   rcases zad hp with ⟨h_20, hp⟩ | ⟨h_20, hp⟩
   ·try simp at h_20
    obtain ⟨y_21, h_22, hp⟩ := zab hp
    try simp [gP, gt, gr, gg, hm0, c_153, q_13, q_9, h_14, h_20]
    refine goal_call ([av .shr e_15] ++ capsAV caps_accept) (Res.res y_21) (by simp [capsAV, gP, gt, gr, gg, hm0, c_153, q_13, q_9, h_14, h_20]) (hc_accept _ _ _ (e_15, ()) _ (Nat.le_succ d) (by repeat (first | exact ha_11 | exact fun k hk => rfl | refine Agree.upd ?_ (by simp))) (by repeat (first | exact ht_10 | exact zaf _ | exact hT.up | exact hT | (simp only [q_13, q_9]; done) | refine Tight.upd ?_ (by simp) (by simp) | refine Tight.killB ?_ | refine zaj ?_)) ⟨_, _, (.inl rfl), rfl, rfl⟩ h_22) ?_
    try simp [gP, gt, gr, gg, hm0, c_153, q_13, q_9, h_14, h_20]
    rcases zad hp with ⟨h_23, hp⟩ | ⟨h_23, hp⟩
    ·try simp at h_23
     try simp [gP, gt, gr, gg, hm0, c_153, q_13, q_9, h_14, h_20, h_23]
     rcases zad hp with ⟨h_24, hp⟩ | ⟨h_24, hp⟩
     ·try simp at h_24
      try simp [gP, gt, gr, gg, hm0, c_153, q_13, q_9, h_14, h_20, h_23, h_24]
      rcases zad hp with ⟨h_25, hp⟩ | ⟨h_25, hp⟩
      ·try simp at h_25
       cases hp
       try simp [gP, gt, gr, gg, hm0, c_153, q_13, q_9, h_14, h_20, h_23, h_24, h_25]
       refine zan ?_
       rw [X_7_]
       exact ⟨_, rfl, by simp [zac, zaa, gP, gt, gr, gg, hm0, c_153, q_13, q_9, h_14, h_20, h_23, h_24, h_25], (by repeat (first | exact ht_10 | exact zaf _ | exact hT.up | exact hT | refine Tight.restrict ?_ | refine Tight.upd ?_ (by simp) (by simp) | refine Tight.killB ?_ | refine zaj ?_)), (by repeat (first | exact ha_11 | exact fun k hk => rfl | refine Agree.restrict hT ?_ | refine Agree.upd ?_ (by simp))), NoBoxD.restrict (by intro k hd hk hb; simp at hk hb; simp [hk, hb, gP, gt, gr, gg, hm0, c_153, q_13, q_9, h_14, h_20, h_23, h_24, h_25, hn_12 k hd (by simp [hk, hb])])⟩
      ·try simp at h_25
       cases hp
       try simp [gP, gt, gr, gg, hm0, c_153, q_13, q_9, h_14, h_20, h_23, h_24, h_25]
       refine zah ?_
       rw [I_6_]
       exact ⟨by simp [zac, zaa, gP, gt, gr, gg, hm0, c_153, q_13, q_9, h_14, h_20, h_23, h_24, h_25], by simp [zac, gP, gt, gr, gg, hm0, c_153, q_13, q_9, h_14, h_20, h_23, h_24, h_25] <;> first | (intro x x1 x2 hx; have h0 := hl_accept _ hx; simp at h0; omega) | (intro x hx; have h0 := hl_accept _ hx; simp at h0; omega), (by repeat (first | exact ht_10 | exact zaf _ | exact hT.up | exact hT | refine Tight.restrict ?_ | refine Tight.upd ?_ (by simp) (by simp) | refine Tight.killB ?_ | refine zaj ?_)), (by repeat (first | exact ha_11 | exact fun k hk => rfl | refine Agree.restrict hT ?_ | refine Agree.upd ?_ (by simp))), NoBoxD.restrict (by intro k hd hk hb; simp at hk hb; simp [hk, hb, gP, gt, gr, gg, hm0, c_153, q_13, q_9, h_14, h_20, h_23, h_24, h_25, hn_12 k hd (by simp [hk, hb])])⟩
     ·try simp at h_24
      cases hp
      try simp [gP, gt, gr, gg, hm0, c_153, q_13, q_9, h_14, h_20, h_23, h_24]
      refine zah ?_
      rw [I_6_]
      exact ⟨by simp [zac, zaa, gP, gt, gr, gg, hm0, c_153, q_13, q_9, h_14, h_20, h_23, h_24], by simp [zac, gP, gt, gr, gg, hm0, c_153, q_13, q_9, h_14, h_20, h_23, h_24] <;> first | (intro x x1 x2 hx; have h0 := hl_accept _ hx; simp at h0; omega) | (intro x hx; have h0 := hl_accept _ hx; simp at h0; omega), (by repeat (first | exact ht_10 | exact zaf _ | exact hT.up | exact hT | refine Tight.restrict ?_ | refine Tight.upd ?_ (by simp) (by simp) | refine Tight.killB ?_ | refine zaj ?_)), (by repeat (first | exact ha_11 | exact fun k hk => rfl | refine Agree.restrict hT ?_ | refine Agree.upd ?_ (by simp))), NoBoxD.restrict (by intro k hd hk hb; simp at hk hb; simp [hk, hb, gP, gt, gr, gg, hm0, c_153, q_13, q_9, h_14, h_20, h_23, h_24, hn_12 k hd (by simp [hk, hb])])⟩
    ·try simp at h_23
     cases hp
     try simp [gP, gt, gr, gg, hm0, c_153, q_13, q_9, h_14, h_20, h_23]
     refine zan ?_
     rw [X_7_]
     exact ⟨_, rfl, by simp [zac, zaa, gP, gt, gr, gg, hm0, c_153, q_13, q_9, h_14, h_20, h_23], (by repeat (first | exact ht_10 | exact zaf _ | exact hT.up | exact hT | refine Tight.restrict ?_ | refine Tight.upd ?_ (by simp) (by simp) | refine Tight.killB ?_ | refine zaj ?_)), (by repeat (first | exact ha_11 | exact fun k hk => rfl | refine Agree.restrict hT ?_ | refine Agree.upd ?_ (by simp))), NoBoxD.restrict (by intro k hd hk hb; simp at hk hb; simp [hk, hb, gP, gt, gr, gg, hm0, c_153, q_13, q_9, h_14, h_20, h_23, hn_12 k hd (by simp [hk, hb])])⟩
   ·try simp at h_20
    try simp [gP, gt, gr, gg, hm0, c_153, q_13, q_9, h_14, h_20]
    rcases zad hp with ⟨h_26, hp⟩ | ⟨h_26, hp⟩
    ·try simp at h_26
     try simp [gP, gt, gr, gg, hm0, c_153, q_13, q_9, h_14, h_20, h_26]
     rcases zad hp with ⟨h_27, hp⟩ | ⟨h_27, hp⟩
     ·try simp at h_27
      cases hp
      try simp [gP, gt, gr, gg, hm0, c_153, q_13, q_9, h_14, h_20, h_26, h_27]
      refine zan ?_
      rw [X_7_]
      exact ⟨_, rfl, by simp [zac, zaa, gP, gt, gr, gg, hm0, c_153, q_13, q_9, h_14, h_20, h_26, h_27], (by repeat (first | exact ht_10 | exact zaf _ | exact hT.up | exact hT | refine Tight.restrict ?_ | refine Tight.upd ?_ (by simp) (by simp) | refine Tight.killB ?_ | refine zaj ?_)), (by repeat (first | exact ha_11 | exact fun k hk => rfl | refine Agree.restrict hT ?_ | refine Agree.upd ?_ (by simp))), NoBoxD.restrict (by intro k hd hk hb; simp at hk hb; simp [hk, hb, gP, gt, gr, gg, hm0, c_153, q_13, q_9, h_14, h_20, h_26, h_27, hn_12 k hd (by simp [hk, hb])])⟩
     ·try simp at h_27
      cases hp
      try simp [gP, gt, gr, gg, hm0, c_153, q_13, q_9, h_14, h_20, h_26, h_27]
      refine zah ?_
      rw [I_6_]
      exact ⟨by simp [zac, zaa, gP, gt, gr, gg, hm0, c_153, q_13, q_9, h_14, h_20, h_26, h_27], by simp [zac, gP, gt, gr, gg, hm0, c_153, q_13, q_9, h_14, h_20, h_26, h_27] <;> first | (intro x x1 x2 hx; have h0 := hl_accept _ hx; simp at h0; omega) | (intro x hx; have h0 := hl_accept _ hx; simp at h0; omega), (by repeat (first | exact ht_10 | exact zaf _ | exact hT.up | exact hT | refine Tight.restrict ?_ | refine Tight.upd ?_ (by simp) (by simp) | refine Tight.killB ?_ | refine zaj ?_)), (by repeat (first | exact ha_11 | exact fun k hk => rfl | refine Agree.restrict hT ?_ | refine Agree.upd ?_ (by simp))), NoBoxD.restrict (by intro k hd hk hb; simp at hk hb; simp [hk, hb, gP, gt, gr, gg, hm0, c_153, q_13, q_9, h_14, h_20, h_26, h_27, hn_12 k hd (by simp [hk, hb])])⟩
    ·try simp at h_26
     cases hp
     try simp [gP, gt, gr, gg, hm0, c_153, q_13, q_9, h_14, h_20, h_26]
     refine zah ?_
     rw [I_6_]
     exact ⟨by simp [zac, zaa, gP, gt, gr, gg, hm0, c_153, q_13, q_9, h_14, h_20, h_26], by simp [zac, gP, gt, gr, gg, hm0, c_153, q_13, q_9, h_14, h_20, h_26] <;> first | (intro x x1 x2 hx; have h0 := hl_accept _ hx; simp at h0; omega) | (intro x hx; have h0 := hl_accept _ hx; simp at h0; omega), (by repeat (first | exact ht_10 | exact zaf _ | exact hT.up | exact hT | refine Tight.restrict ?_ | refine Tight.upd ?_ (by simp) (by simp) | refine Tight.killB ?_ | refine zaj ?_)), (by repeat (first | exact ha_11 | exact fun k hk => rfl | refine Agree.restrict hT ?_ | refine Agree.upd ?_ (by simp))), NoBoxD.restrict (by intro k hd hk hb; simp at hk hb; simp [hk, hb, gP, gt, gr, gg, hm0, c_153, q_13, q_9, h_14, h_20, h_26, hn_12 k hd (by simp [hk, hb])])⟩
  ·try simp at h_14
   cases hp
   try simp [gP, gt, gr, gg, hm0, c_153, q_13, q_9, h_14]
   refine zak ?_
   rw [X_7_]
   exact ⟨_, rfl, by simp [zac, zaa, gP, gt, gr, gg, hm0, c_153, q_13, q_9, h_14], (by repeat (first | exact ht_10 | exact zaf _ | exact hT.up | exact hT | refine Tight.restrict ?_ | refine Tight.upd ?_ (by simp) (by simp) | refine Tight.killB ?_ | refine zaj ?_)), (by repeat (first | exact ha_11 | exact fun k hk => rfl | refine Agree.restrict hT ?_ | refine Agree.upd ?_ (by simp))), NoBoxD.restrict (by intro k hd hk hb; simp at hk hb; simp [hk, hb, gP, gt, gr, gg, hm0, c_153, q_13, q_9, h_14, hn_12 k hd (by simp [hk, hb])])⟩
 ·intro out hX
  rw [X_7_] at hX
  rcases r_28 with r_28 | r_28
  ·simp only [Sum.elim_inl, Sum.elim_inr] at hX hp
   obtain ⟨σ_30, rfl, q_34, ht_31, ha_32, hn_33⟩ := hX
   cases hp
   simp [Goal, FnEndI, memKill_hi, gP, gt, gr, gg, hm0, c_153, q_34, kill_back ha_32 hT]
  ·simp only [Sum.elim_inl, Sum.elim_inr] at hX hp
   obtain ⟨σ_35, rfl, q_39, ht_36, ha_37, hn_38⟩ := hX
   cases hp
   simp [Goal, FnEndI, memKill_hi, gP, gt, gr, gg, hm0, c_153, q_39, kill_back ha_37 hT]
end Go.Proofs

