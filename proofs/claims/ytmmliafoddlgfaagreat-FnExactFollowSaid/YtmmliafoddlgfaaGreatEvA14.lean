import Derived.Test.YtmmliafoddlgfaaGreatEvA13
set_option linter.unusedSimpArgs false
set_option linter.unusedVariables false
set_option linter.unnecessarySimpa false
set_option maxHeartbeats 4000000
set_option maxRecDepth 100000
namespace Go.Proofs
open Go.Ev
noncomputable def C151 : List AV → Option AV := specP (X := (List Int) × Int × Unit) fun x => spec_Positions x.1 x.2.1
theorem C151_eq {list n_} {y} (h : spec_Positions list n_ = some y) : C151 [av .shr list, av .shr n_] = some (Res.res y) := zag (X := (List Int) × Int × Unit) (F := fun x => spec_Positions x.1 x.2.1) (x := (list, n_, ())) h
noncomputable def g151 : Cfg := { P := Tryz.prog, take := [(151, 20), (151, 24)], keep := [((151, 3), { hd := [0, 1, 5, 6], bx := [], ex := [5], rt := [4] })], gho := [], ctx := [] }
@[simp] theorem g151_s : g151.P = Tryz.prog ∧ g151.take = [(151, 20), (151, 24)] ∧ g151.gho = [] ∧ g151.ro = [] ∧ g151.away = [] ∧ g151.give = [] ∧ g151.octx = [] := by rw [g151]; exact ⟨rfl, rfl, rfl, rfl, rfl, rfl, rfl⟩
theorem w151 {list n_} {y} (hp : spec_Positions list n_ = some y) : ∃ m, callo g151 0 151 [av .shr list, av .shr n_] mem0 = some (Res.res y, m) := by
  refine zah (Tryz.f151.body.getD .skip) [.tmp 4] rfl rfl Tryz.func151 (by kernel_rfl) (by kernel_rfl) (by simp [Tryz.ntmps151]) rfl ?_
  unfold spec_Positions at hp
  simp [Tryz.f151]
  obtain ⟨r_20, h_21, hp⟩ := zaa hp
  obtain ⟨I_3, I_3_⟩ : ∃ I : (List Int) × Int → St → Prop, I = (fun (s_1 : (List Int) × Int) (σ : St) => σ.env 0 = .one (.l .shr list.length (encL list)) ∧ σ.env 1 = .one (.s (.int .i64 n_)) ∧ σ.env 5 = .one (.l .own s_1.1.length (encL s_1.1)) ∧ σ.env 6 = .one (.s (.int .i64 s_1.2)) ∧ σ.mem = mem0) := ⟨_, rfl⟩
  obtain ⟨X_4, X_4_⟩ : ∃ X : (List Int) → Out → Prop, X = (fun (r_20 : (List Int)) (out : Out) => ∃ σ : St, out = .exit 0 σ ∧ σ.env 5 = .one (.l .own r_20.length (encL r_20)) ∧ σ.mem = mem0) := ⟨_, rfl⟩
  refine loopP ({ hd := [0, 1, 5, 6], bx := [], ex := [5], rt := [4] }) I_3 X_4 h_21 (by exact rfl) ?_ ?_ ?_
  ·rw [I_3_]
   refine ⟨?_, ?_, ?_, ?_, ?_⟩ <;> simp [zab, zac]
  ·intro s_1 σ_5 a_2 hI hp
   rw [I_3_] at hI
   obtain ⟨q_6, q_7, q_8, q_9, q_10⟩ := hI
   try simp [q_6, q_7, q_8, q_9, q_10]
   rcases zad hp with ⟨h_11, hp⟩ | ⟨h_11, hp⟩
   ·try simp at h_11
    obtain ⟨e_12, h_13, hp⟩ := zaa hp
    have b_14 := at_lo h_13
    have b_15 := at_hi h_13
    try simp at b_14 b_15
    have c_16 := seg_at' h_13 0 1 (by decide) (ds := [.sc (.int .i64 e_12)]) rfl
    try simp at c_16
    try simp [q_6, q_7, q_8, q_9, q_10, h_11, b_14, b_15, c_16]
    rcases zad hp with ⟨h_17, hp⟩ | ⟨h_17, hp⟩
    ·try simp at h_17
     obtain ⟨_, h_18, hp⟩ := zaa hp
     have b_19 := room_ok h_18
     try simp at b_19
     cases hp
     try simp [q_6, q_7, q_8, q_9, q_10, h_11, h_17, b_19]
     refine zak ?_
     rw [I_3_]
     refine ⟨?_, ?_, ?_, ?_, ?_⟩ <;> simp [zab, zac, q_6, q_7, q_8, q_9, q_10, h_11, h_17, b_19]
    ·try simp at h_17
     cases hp
     try simp [q_6, q_7, q_8, q_9, q_10, h_11, h_17]
     refine zak ?_
     rw [I_3_]
     refine ⟨?_, ?_, ?_, ?_, ?_⟩ <;> simp [zab, zac, q_6, q_7, q_8, q_9, q_10, h_11, h_17]
   ·try simp at h_11
    cases hp
    try simp [q_6, q_7, q_8, q_9, q_10, h_11]
    refine zan ?_
    rw [X_4_]
    refine ⟨_, rfl, ?_, ?_⟩ <;> simp [zab, zac, q_6, q_7, q_8, q_9, q_10, h_11]
  ·intro out hX
   rw [X_4_] at hX
   obtain ⟨σ_22, rfl, q_23, q_24⟩ := hX
   cases hp
   simp [Goal, FnEnd, q_23, q_24]
theorem pc151 : PC Tryz.prog 151 C151 := pc_of (g := g151) (zai [] rfl trivial) ⟨Tryz.f151, Tryz.func151, by kernel_rfl, by kernel_rfl⟩ fun x y h => w151 h

noncomputable def C128 : List AV → Option AV := specP (X := (List Int) × Int × Unit) fun x => spec_l7Has x.1 x.2.1
theorem C128_eq {list n_} {y} (h : spec_l7Has list n_ = some y) : C128 [av .shr list, av .shr n_] = some (Res.res y) := zag (X := (List Int) × Int × Unit) (F := fun x => spec_l7Has x.1 x.2.1) (x := (list, n_, ())) h
noncomputable def g128 : Cfg := { P := Tryz.prog, take := [], keep := [], gho := [], ctx := [(151, C151)] }
@[simp] theorem g128_s : g128.P = Tryz.prog ∧ g128.take = [] ∧ g128.gho = [] ∧ g128.ro = [] ∧ g128.away = [] ∧ g128.give = [] ∧ g128.octx = [] ∧ lookN 151 g128.ctx = some C151 := by rw [g128]; exact ⟨rfl, rfl, rfl, rfl, rfl, rfl, rfl, rfl⟩
theorem w128 {list n_} {y} (hp : spec_l7Has list n_ = some y) : ∃ m, callo g128 0 128 [av .shr list, av .shr n_] mem0 = some (Res.res y, m) := by
  refine zah (Tryz.f128.body.getD .skip) [.tmp 4] rfl rfl Tryz.func128 (by kernel_rfl) (by kernel_rfl) (by simp [Tryz.ntmps128]) rfl ?_
  unfold spec_l7Has at hp
  obtain ⟨y_1, h_2, hp⟩ := zaa hp
  have c_3 := C151_eq h_2
  simp at c_3
  cases hp
  simp [Tryz.f128, Goal, FnEnd, c_3]
theorem pc128 : PC Tryz.prog 128 C128 := pc_of (g := g128) (zai [(151, C151)] rfl ⟨pc151, trivial⟩) ⟨Tryz.f128, Tryz.func128, by kernel_rfl, by kernel_rfl⟩ fun x y h => w128 h

noncomputable def C127 : List AV → Option AV := specP (X := THeap × Int × Unit) fun x => spec_Followed x.1 x.2.1
theorem C127_eq {h_ cell} {y} (h : spec_Followed h_ cell = some y) : C127 [av .shr h_, av .shr cell] = some (Res.res y) := zag (X := THeap × Int × Unit) (F := fun x => spec_Followed x.1 x.2.1) (x := (h_, cell, ())) h
noncomputable def g127 : Cfg := { P := Tryz.prog, take := [(127, 23), (127, 32)], keep := [((127, 2), { hd := [1, 2, 5], bx := [], ex := [5], rt := [4] })], gho := [], ctx := [(49, C49), (128, C128)] }
@[simp] theorem g127_s : g127.P = Tryz.prog ∧ g127.take = [(127, 23), (127, 32)] ∧ g127.gho = [] ∧ g127.ro = [] ∧ g127.away = [] ∧ g127.give = [] ∧ g127.octx = [] ∧ lookN 49 g127.ctx = some C49 ∧ lookN 128 g127.ctx = some C128 := by rw [g127]; exact ⟨rfl, rfl, rfl, rfl, rfl, rfl, rfl, rfl, rfl⟩
theorem w127 {h_ cell} {y} (hp : spec_Followed h_ cell = some y) : ∃ m, callo g127 0 127 [av .shr h_, av .shr cell] mem0 = some (Res.res y, m) := by
  refine zah (Tryz.f127.body.getD .skip) [.tmp 4] rfl rfl Tryz.func127 (by kernel_rfl) (by kernel_rfl) (by simp [Tryz.ntmps127]) rfl ?_
  unfold spec_Followed at hp
  simp [Tryz.f127]
  obtain ⟨r_27, h_28, hp⟩ := zaa hp
  obtain ⟨I_3, I_3_⟩ : ∃ I : Int × (List Int) → St → Prop, I = (fun (s_1 : Int × (List Int)) (σ : St) => σ.env 1 = .one (.s (.int .i64 s_1.1)) ∧ σ.env 2 = .one (.ptr (1, 2) 0) ∧ σ.env 5 = .one (.l .own s_1.2.length (encL s_1.2)) ∧ σ.mem (1, 2) = some [(.l .shr h_.vars.length (encL h_.vars)), (.l .shr h_.next.length (encL h_.next))] ∧ NoBox [(1, 2)] σ.mem) := ⟨_, rfl⟩
  obtain ⟨X_4, X_4_⟩ : ∃ X : (((List Int)) ⊕ (Unit)) → Out → Prop, X = (fun (r_27 : ((List Int)) ⊕ (Unit)) (out : Out) => Sum.elim (fun r_27 => ∃ σ : St, out = .exit 0 σ ∧ σ.env 5 = .one (.l .own r_27.length (encL r_27)) ∧ σ.mem (1, 2) = some [(.l .shr h_.vars.length (encL h_.vars)), (.l .shr h_.next.length (encL h_.next))] ∧ NoBox [(1, 2)] σ.mem) (fun r_27 => ∃ σ : St, out = .ret σ ∧ σ.env 4 = .one (.l .own 0 []) ∧ σ.mem (1, 2) = some [(.l .shr h_.vars.length (encL h_.vars)), (.l .shr h_.next.length (encL h_.next))] ∧ NoBox [(1, 2)] σ.mem) r_27) := ⟨_, rfl⟩
  refine loopP ({ hd := [1, 2, 5], bx := [], ex := [5], rt := [4] }) I_3 X_4 h_28 (by exact rfl) ?_ ?_ ?_
  ·rw [I_3_]
   refine ⟨?_, ?_, ?_, ?_, NoBox.restrict (by intro k hk hb; simp at hk hb; simp [hk, hb])⟩ <;> simp [zab, zac]
  ·intro s_1 σ_5 a_2 hI hp
   rw [I_3_] at hI
   obtain ⟨q_6, q_7, q_8, q_9, hn_10⟩ := hI
   try simp [q_6, q_7, q_8, q_9]
   rcases zad hp with ⟨h_11, hp⟩ | ⟨h_11, hp⟩
   ·try simp at h_11
    obtain ⟨y_12, h_13, hp⟩ := zaa hp
    have c_14 := C128_eq h_13
    simp at c_14
    try simp [q_6, q_7, q_8, q_9, h_11, c_14]
    rcases zad hp with ⟨h_15, hp⟩ | ⟨h_15, hp⟩
    ·try simp at h_15
     cases hp
     try simp [q_6, q_7, q_8, q_9, h_11, h_15]
     refine zan ?_
     rw [X_4_]
     refine ⟨_, rfl, ?_, ?_, NoBox.restrict (by intro k hk hb; simp at hk hb; simp [hk, hb, q_6, q_7, q_8, q_9, h_11, h_15, hn_10 k (by simp [hk, hb])])⟩ <;> simp [zab, zac, q_6, q_7, q_8, q_9, h_11, h_15]
    ·try simp at h_15
     obtain ⟨y_16, h_17, hp⟩ := zaa hp
     have c_18 := C49_eq h_17
     simp at c_18
     try simp [q_6, q_7, q_8, q_9, h_11, h_15, c_18]
     rcases zad hp with ⟨h_19, hp⟩ | ⟨h_19, hp⟩
     ·try simp at h_19
      obtain ⟨_, h_20, hp⟩ := zaa hp
      have b_21 := room_ok h_20
      try simp at b_21
      obtain ⟨e_22, h_23, hp⟩ := zaa hp
      have b_24 := at_lo h_23
      have b_25 := at_hi h_23
      try simp at b_24 b_25
      have c_26 := seg_at' h_23 0 1 (by decide) (ds := [.sc (.int .i64 e_22)]) rfl
      try simp at c_26
      cases hp
      try simp [q_6, q_7, q_8, q_9, h_11, h_15, h_19, b_21, b_24, b_25, c_26]
      refine zak ?_
      rw [I_3_]
      refine ⟨?_, ?_, ?_, ?_, NoBox.restrict (by intro k hk hb; simp at hk hb; simp [hk, hb, q_6, q_7, q_8, q_9, h_11, h_15, h_19, b_21, b_24, b_25, c_26, hn_10 k (by simp [hk, hb])])⟩ <;> simp [zab, zac, q_6, q_7, q_8, q_9, h_11, h_15, h_19, b_21, b_24, b_25, c_26]
     ·try simp at h_19
      cases hp
      try simp [q_6, q_7, q_8, q_9, h_11, h_15, h_19]
      refine zao ?_
      rw [X_4_]
      refine ⟨_, rfl, ?_, ?_, NoBox.restrict (by intro k hk hb; simp at hk hb; simp [hk, hb, q_6, q_7, q_8, q_9, h_11, h_15, h_19, hn_10 k (by simp [hk, hb])])⟩ <;> simp [zab, zac, q_6, q_7, q_8, q_9, h_11, h_15, h_19]
   ·try simp at h_11
    cases hp
    try simp [q_6, q_7, q_8, q_9, h_11]
    refine zan ?_
    rw [X_4_]
    refine ⟨_, rfl, ?_, ?_, NoBox.restrict (by intro k hk hb; simp at hk hb; simp [hk, hb, q_6, q_7, q_8, q_9, h_11, hn_10 k (by simp [hk, hb])])⟩ <;> simp [zab, zac, q_6, q_7, q_8, q_9, h_11]
  ·intro out hX
   rw [X_4_] at hX
   rcases r_27 with r_27 | r_27
   ·simp only [Sum.elim_inl, Sum.elim_inr] at hX hp
    obtain ⟨σ_29, rfl, q_30, q_31, hn_32⟩ := hX
    cases hp
    simp [Goal, FnEnd, q_30, q_31]
   ·simp only [Sum.elim_inl, Sum.elim_inr] at hX hp
    obtain ⟨σ_33, rfl, q_34, q_35, hn_36⟩ := hX
    cases hp
    simp [Goal, FnEnd, q_34, q_35]
theorem pc127 : PC Tryz.prog 127 C127 := pc_of (g := g127) (zai [(49, C49), (128, C128)] rfl ⟨pc49, pc128, trivial⟩) ⟨Tryz.f127, Tryz.func127, by kernel_rfl, by kernel_rfl⟩ fun x y h => w127 h

noncomputable def C79 : List AV → Option AV := specP (X := THeap × Unit) fun x => spec_l7Acyclic x.1
theorem C79_eq {h_} {y} (h : spec_l7Acyclic h_ = some y) : C79 [av .shr h_] = some (Res.res y) := zag (X := THeap × Unit) (F := fun x => spec_l7Acyclic x.1) (x := (h_, ())) h
noncomputable def g79 : Cfg := { P := Tryz.prog, take := [], keep := [((79, 2), { hd := [1, 3], bx := [], ex := [], rt := [2] })], gho := [], ctx := [(127, C127)] }
@[simp] theorem g79_s : g79.P = Tryz.prog ∧ g79.take = [] ∧ g79.gho = [] ∧ g79.ro = [] ∧ g79.away = [] ∧ g79.give = [] ∧ g79.octx = [] ∧ lookN 127 g79.ctx = some C127 := by rw [g79]; exact ⟨rfl, rfl, rfl, rfl, rfl, rfl, rfl, rfl⟩
theorem w79 {h_} {y} (hp : spec_l7Acyclic h_ = some y) : ∃ m, callo g79 0 79 [av .shr h_] mem0 = some (Res.res y, m) := by
  refine zah (Tryz.f79.body.getD .skip) [.tmp 2] rfl rfl Tryz.func79 (by kernel_rfl) (by kernel_rfl) (by simp [Tryz.ntmps79]) rfl ?_
  unfold spec_l7Acyclic at hp
  simp [Tryz.f79]
  obtain ⟨r_26, h_27, hp⟩ := zaa hp
  obtain ⟨I_3, I_3_⟩ : ∃ I : Int → St → Prop, I = (fun (s_1 : Int) (σ : St) => σ.env 1 = .one (.ptr (1, 1) 0) ∧ σ.env 3 = .one (.s (.int .i64 s_1)) ∧ σ.mem (1, 1) = some [(.l .shr h_.vars.length (encL h_.vars)), (.l .shr h_.next.length (encL h_.next))] ∧ NoBox [(1, 1)] σ.mem) := ⟨_, rfl⟩
  obtain ⟨X_4, X_4_⟩ : ∃ X : ((Unit) ⊕ (Unit)) → Out → Prop, X = (fun (r_26 : (Unit) ⊕ (Unit)) (out : Out) => Sum.elim (fun r_26 => ∃ σ : St, out = .ret σ ∧ σ.env 2 = .one (.s (.bool false)) ∧ σ.mem (1, 1) = some [(.l .shr h_.vars.length (encL h_.vars)), (.l .shr h_.next.length (encL h_.next))] ∧ NoBox [(1, 1)] σ.mem) (fun r_26 => ∃ σ : St, out = .exit 0 σ ∧ σ.mem (1, 1) = some [(.l .shr h_.vars.length (encL h_.vars)), (.l .shr h_.next.length (encL h_.next))] ∧ NoBox [(1, 1)] σ.mem) r_26) := ⟨_, rfl⟩
  refine loopP ({ hd := [1, 3], bx := [], ex := [], rt := [2] }) I_3 X_4 h_27 (by exact rfl) ?_ ?_ ?_
  ·rw [I_3_]
   refine ⟨?_, ?_, ?_, NoBox.restrict (by intro k hk hb; simp at hk hb; simp [hk, hb])⟩ <;> simp [zab, zac]
  ·intro s_1 σ_5 a_2 hI hp
   rw [I_3_] at hI
   obtain ⟨q_6, q_7, q_8, hn_9⟩ := hI
   try simp [q_6, q_7, q_8]
   rcases zad hp with ⟨h_10, hp⟩ | ⟨h_10, hp⟩
   ·try simp at h_10
    obtain ⟨y_11, h_12, hp⟩ := zaa hp
    have c_13 := C127_eq h_12
    simp at c_13
    try simp [q_6, q_7, q_8, h_10, c_13]
    rcases zad hp with ⟨h_14, hp⟩ | ⟨h_14, hp⟩
    ·try simp at h_14
     cases hp
     try simp [q_6, q_7, q_8, h_10, h_14]
     refine zao ?_
     rw [X_4_]
     refine ⟨_, rfl, ?_, ?_, NoBox.restrict (by intro k hk hb; simp at hk hb; simp [hk, hb, q_6, q_7, q_8, h_10, h_14, hn_9 k (by simp [hk, hb])])⟩ <;> simp [zab, zac, q_6, q_7, q_8, h_10, h_14]
    ·try simp at h_14
     obtain ⟨e_15, h_16, hp⟩ := zaa hp
     have b_17 := at_lo h_16
     have b_18 := at_hi h_16
     try simp at b_17 b_18
     have c_19 := seg_at' h_16 0 1 (by decide) (ds := [.sc (.int .i64 e_15)]) rfl
     try simp at c_19
     obtain ⟨e_20, h_21, hp⟩ := zaa hp
     have b_22 := at_lo h_21
     have b_23 := at_hi h_21
     try simp at b_22 b_23
     have c_24 := seg_at' h_21 0 1 (by decide) (ds := [.sc (.int .i64 e_20)]) rfl
     try simp at c_24
     try simp [q_6, q_7, q_8, h_10, h_14, b_17, b_18, c_19, b_22, b_23, c_24]
     rcases zad hp with ⟨h_25, hp⟩ | ⟨h_25, hp⟩
     ·try simp at h_25
      cases hp
      try simp [q_6, q_7, q_8, h_10, h_14, h_25]
      refine zao ?_
      rw [X_4_]
      refine ⟨_, rfl, ?_, ?_, NoBox.restrict (by intro k hk hb; simp at hk hb; simp [hk, hb, q_6, q_7, q_8, h_10, h_14, h_25, hn_9 k (by simp [hk, hb])])⟩ <;> simp [zab, zac, q_6, q_7, q_8, h_10, h_14, h_25]
     ·try simp at h_25
      cases hp
      try simp [q_6, q_7, q_8, h_10, h_14, h_25]
      refine zak ?_
      rw [I_3_]
      refine ⟨?_, ?_, ?_, NoBox.restrict (by intro k hk hb; simp at hk hb; simp [hk, hb, q_6, q_7, q_8, h_10, h_14, h_25, hn_9 k (by simp [hk, hb])])⟩ <;> simp [zab, zac, q_6, q_7, q_8, h_10, h_14, h_25]
   ·try simp at h_10
    cases hp
    try simp [q_6, q_7, q_8, h_10]
    refine zan ?_
    rw [X_4_]
    exact ⟨_, rfl, by simp [zac, q_6, q_7, q_8, h_10], NoBox.restrict (by intro k hk hb; simp at hk hb; simp [hk, hb, q_6, q_7, q_8, h_10, hn_9 k (by simp [hk, hb])])⟩
  ·intro out hX
   rw [X_4_] at hX
   rcases r_26 with r_26 | r_26
   ·simp only [Sum.elim_inl, Sum.elim_inr] at hX hp
    obtain ⟨σ_28, rfl, q_29, q_30, hn_31⟩ := hX
    cases hp
    simp [Goal, FnEnd, q_29, q_30]
   ·simp only [Sum.elim_inl, Sum.elim_inr] at hX hp
    obtain ⟨σ_32, rfl, q_33, hn_34⟩ := hX
    cases hp
    simp [Goal, FnEnd, q_33]
theorem pc79 : PC Tryz.prog 79 C79 := pc_of (g := g79) (zai [(127, C127)] rfl ⟨pc127, trivial⟩) ⟨Tryz.f79, Tryz.func79, by kernel_rfl, by kernel_rfl⟩ fun x y h => w79 h

noncomputable def C80 : List AV → Option AV := specP (X := THeap × Unit) fun x => spec_l7Order x.1
theorem C80_eq {h_} {y} (h : spec_l7Order h_ = some y) : C80 [av .shr h_] = some (Res.res y) := zag (X := THeap × Unit) (F := fun x => spec_l7Order x.1) (x := (h_, ())) h
noncomputable def g80 : Cfg := { P := Tryz.prog, take := [(80, 35), (80, 42)], keep := [((80, 3), { hd := [1, 3, 4], bx := [], ex := [3], rt := [2] }), ((80, 7), { hd := [1, 3, 4, 5, 6], bx := [], ex := [1, 3, 4], rt := [2] })], gho := [], ctx := [(127, C127), (128, C128)] }
@[simp] theorem g80_s : g80.P = Tryz.prog ∧ g80.take = [(80, 35), (80, 42)] ∧ g80.gho = [] ∧ g80.ro = [] ∧ g80.away = [] ∧ g80.give = [] ∧ g80.octx = [] ∧ lookN 127 g80.ctx = some C127 ∧ lookN 128 g80.ctx = some C128 := by rw [g80]; exact ⟨rfl, rfl, rfl, rfl, rfl, rfl, rfl, rfl, rfl⟩
theorem w80 {h_} {y} (hp : spec_l7Order h_ = some y) : ∃ m, callo g80 0 80 [av .shr h_] mem0 = some (Res.res y, m) := by
  refine zah (Tryz.f80.body.getD .skip) [.tmp 2] rfl rfl Tryz.func80 (by kernel_rfl) (by kernel_rfl) (by simp [Tryz.ntmps80]) rfl ?_
  unfold spec_l7Order at hp
  simp [Tryz.f80]
  obtain ⟨r_57, h_58, hp⟩ := zaa hp
  obtain ⟨I_3, I_3_⟩ : ∃ I : (List Int) × Int → St → Prop, I = (fun (s_1 : (List Int) × Int) (σ : St) => σ.env 1 = .one (.ptr (1, 1) 0) ∧ σ.env 3 = .one (.l .own s_1.1.length (encL s_1.1)) ∧ σ.env 4 = .one (.s (.int .i64 s_1.2)) ∧ σ.mem (1, 1) = some [(.l .shr h_.vars.length (encL h_.vars)), (.l .shr h_.next.length (encL h_.next))] ∧ NoBox [(1, 1)] σ.mem) := ⟨_, rfl⟩
  obtain ⟨X_4, X_4_⟩ : ∃ X : (List Int) → Out → Prop, X = (fun (r_57 : (List Int)) (out : Out) => ∃ σ : St, out = .exit 0 σ ∧ σ.env 3 = .one (.l .own r_57.length (encL r_57)) ∧ σ.mem (1, 1) = some [(.l .shr h_.vars.length (encL h_.vars)), (.l .shr h_.next.length (encL h_.next))] ∧ NoBox [(1, 1)] σ.mem) := ⟨_, rfl⟩
  refine loopP ({ hd := [1, 3, 4], bx := [], ex := [3], rt := [2] }) I_3 X_4 h_58 (by exact rfl) ?_ ?_ ?_
  ·rw [I_3_]
   refine ⟨?_, ?_, ?_, ?_, NoBox.restrict (by intro k hk hb; simp at hk hb; simp [hk, hb])⟩ <;> simp [zab, zac]
  ·intro s_1 σ_5 a_2 hI hp
   rw [I_3_] at hI
   obtain ⟨q_6, q_7, q_8, q_9, hn_10⟩ := hI
   try simp [q_6, q_7, q_8, q_9]
   rcases zad hp with ⟨h_11, hp⟩ | ⟨h_11, hp⟩
   ·try simp at h_11
    obtain ⟨e_12, h_13, hp⟩ := zaa hp
    have b_14 := at_lo h_13
    have b_15 := at_hi h_13
    try simp at b_14 b_15
    have c_16 := seg_at' h_13 0 1 (by decide) (ds := [.sc (.int .i64 e_12)]) rfl
    try simp at c_16
    obtain ⟨y_17, h_18, hp⟩ := zaa hp
    have c_19 := C127_eq h_18
    simp at c_19
    try simp [q_6, q_7, q_8, q_9, h_11, b_14, b_15, c_16, c_19]
    obtain ⟨r_49, h_50, hp⟩ := zaa hp
    obtain ⟨I_22, I_22_⟩ : ∃ I : Int × (List Int) → St → Prop, I = (fun (s_20 : Int × (List Int)) (σ : St) => σ.env 1 = .one (.ptr (1, 1) 0) ∧ σ.env 3 = .one (.l .own s_20.2.length (encL s_20.2)) ∧ σ.env 4 = .one (.s (.int .i64 s_1.2)) ∧ σ.env 5 = .one (.l .own y_17.length (encL y_17)) ∧ σ.env 6 = .one (.s (.int .i64 s_20.1)) ∧ σ.mem (1, 1) = some [(.l .shr h_.vars.length (encL h_.vars)), (.l .shr h_.next.length (encL h_.next))] ∧ NoBox [(1, 1)] σ.mem) := ⟨_, rfl⟩
    obtain ⟨X_23, X_23_⟩ : ∃ X : (List Int) → Out → Prop, X = (fun (r_49 : (List Int)) (out : Out) => ∃ σ : St, out = .exit 2 σ ∧ σ.env 1 = .one (.ptr (1, 1) 0) ∧ σ.env 3 = .one (.l .own r_49.length (encL r_49)) ∧ σ.env 4 = .one (.s (.int .i64 s_1.2)) ∧ σ.mem (1, 1) = some [(.l .shr h_.vars.length (encL h_.vars)), (.l .shr h_.next.length (encL h_.next))] ∧ NoBox [(1, 1)] σ.mem) := ⟨_, rfl⟩
    refine loopP ({ hd := [1, 3, 4, 5, 6], bx := [], ex := [1, 3, 4], rt := [2] }) I_22 X_23 h_50 (by exact rfl) ?_ ?_ ?_
    ·rw [I_22_]
     refine ⟨?_, ?_, ?_, ?_, ?_, ?_, NoBox.restrict (by intro k hk hb; simp at hk hb; simp [hk, hb, q_6, q_7, q_8, q_9, h_11, hn_10 k (by simp [hk, hb])])⟩ <;> simp [zab, zac, q_6, q_7, q_8, q_9, h_11]
    ·intro s_20 σ_24 a_21 hI hp
     rw [I_22_] at hI
     obtain ⟨q_25, q_26, q_27, q_28, q_29, q_30, hn_31⟩ := hI
     try simp [h_11, q_25, q_26, q_27, q_28, q_29, q_30]
     rcases zad hp with ⟨h_32, hp⟩ | ⟨h_32, hp⟩
     ·try simp at h_32
      obtain ⟨e_33, h_34, hp⟩ := zaa hp
      have b_35 := at_lo h_34
      have b_36 := at_hi h_34
      try simp at b_35 b_36
      have c_37 := seg_at' h_34 0 1 (by decide) (ds := [.sc (.int .i64 e_33)]) rfl
      try simp at c_37
      obtain ⟨y_38, h_39, hp⟩ := zaa hp
      have c_40 := C128_eq h_39
      simp at c_40
      try simp [h_11, q_25, q_26, q_27, q_28, q_29, q_30, h_32, b_35, b_36, c_37, c_40]
      rcases zad hp with ⟨h_41, hp⟩ | ⟨h_41, hp⟩
      ·try simp at h_41
       cases hp
       try simp [h_11, q_25, q_26, q_27, q_28, q_29, q_30, h_32, h_41]
       refine zak ?_
       rw [I_22_]
       refine ⟨?_, ?_, ?_, ?_, ?_, ?_, NoBox.restrict (by intro k hk hb; simp at hk hb; simp [hk, hb, h_11, q_25, q_26, q_27, q_28, q_29, q_30, h_32, h_41, hn_31 k (by simp [hk, hb])])⟩ <;> simp [zab, zac, h_11, q_25, q_26, q_27, q_28, q_29, q_30, h_32, h_41]
      ·try simp at h_41
       obtain ⟨e_42, h_43, hp⟩ := zaa hp
       cases Option.some.inj (h_34.symm.trans h_43)
       have b_44 := at_lo h_34
       have b_45 := at_hi h_34
       try simp at b_44 b_45
       have c_46 := seg_at' h_34 0 1 (by decide) (ds := [.sc (.int .i64 e_33)]) rfl
       try simp at c_46
       obtain ⟨_, h_47, hp⟩ := zaa hp
       have b_48 := room_ok h_47
       try simp at b_48
       cases hp
       try simp [h_11, q_25, q_26, q_27, q_28, q_29, q_30, h_32, h_41, b_44, b_45, c_46, b_48]
       refine zak ?_
       rw [I_22_]
       refine ⟨?_, ?_, ?_, ?_, ?_, ?_, NoBox.restrict (by intro k hk hb; simp at hk hb; simp [hk, hb, h_11, q_25, q_26, q_27, q_28, q_29, q_30, h_32, h_41, b_44, b_45, c_46, b_48, hn_31 k (by simp [hk, hb])])⟩ <;> simp [zab, zac, h_11, q_25, q_26, q_27, q_28, q_29, q_30, h_32, h_41, b_44, b_45, c_46, b_48]
     ·try simp at h_32
      cases hp
      try simp [h_11, q_25, q_26, q_27, q_28, q_29, q_30, h_32]
      refine zan ?_
      rw [X_23_]
      refine ⟨_, rfl, ?_, ?_, ?_, ?_, NoBox.restrict (by intro k hk hb; simp at hk hb; simp [hk, hb, h_11, q_25, q_26, q_27, q_28, q_29, q_30, h_32, hn_31 k (by simp [hk, hb])])⟩ <;> simp [zab, zac, h_11, q_25, q_26, q_27, q_28, q_29, q_30, h_32]
    ·intro out hX
     rw [X_23_] at hX
     obtain ⟨σ_51, rfl, q_52, q_53, q_54, q_55, hn_56⟩ := hX
     cases hp
     try simp [h_11, q_52, q_53, q_54, q_55]
     refine zak ?_
     rw [I_3_]
     refine ⟨?_, ?_, ?_, ?_, NoBox.restrict (by intro k hk hb; simp at hk hb; simp [hk, hb, h_11, q_52, q_53, q_54, q_55, hn_56 k (by simp [hk, hb])])⟩ <;> simp [zab, zac, h_11, q_52, q_53, q_54, q_55]
   ·try simp at h_11
    cases hp
    try simp [q_6, q_7, q_8, q_9, h_11]
    refine zan ?_
    rw [X_4_]
    refine ⟨_, rfl, ?_, ?_, NoBox.restrict (by intro k hk hb; simp at hk hb; simp [hk, hb, q_6, q_7, q_8, q_9, h_11, hn_10 k (by simp [hk, hb])])⟩ <;> simp [zab, zac, q_6, q_7, q_8, q_9, h_11]
  ·intro out hX
   rw [X_4_] at hX
   obtain ⟨σ_59, rfl, q_60, q_61, hn_62⟩ := hX
   cases hp
   simp [Goal, FnEnd, q_60, q_61]
theorem pc80 : PC Tryz.prog 80 C80 := pc_of (g := g80) (zai [(127, C127), (128, C128)] rfl ⟨pc127, pc128, trivial⟩) ⟨Tryz.f80, Tryz.func80, by kernel_rfl, by kernel_rfl⟩ fun x y h => w80 h

noncomputable def C47 : List AV → Option AV := specP (X := Int × THeap × Unit) fun x => spec_IsHeap x.1 x.2.1
theorem C47_eq {vars h_} {y} (h : spec_IsHeap vars h_ = some y) : C47 [av .shr vars, av .shr h_] = some (Res.res y) := zag (X := Int × THeap × Unit) (F := fun x => spec_IsHeap x.1 x.2.1) (x := (vars, h_, ())) h
noncomputable def g47 : Cfg := { P := Tryz.prog, take := [], keep := [((47, 5), { hd := [3, 5, 6], bx := [], ex := [3, 5], rt := [4] })], gho := [], ctx := [(49, C49), (78, C78), (79, C79), (80, C80)] }
@[simp] theorem g47_s : g47.P = Tryz.prog ∧ g47.take = [] ∧ g47.gho = [] ∧ g47.ro = [] ∧ g47.away = [] ∧ g47.give = [] ∧ g47.octx = [] ∧ lookN 49 g47.ctx = some C49 ∧ lookN 78 g47.ctx = some C78 ∧ lookN 79 g47.ctx = some C79 ∧ lookN 80 g47.ctx = some C80 := by rw [g47]; exact ⟨rfl, rfl, rfl, rfl, rfl, rfl, rfl, rfl, rfl, rfl, rfl⟩
theorem w47 {vars h_} {y} (hp : spec_IsHeap vars h_ = some y) : ∃ m, callo g47 0 47 [av .shr vars, av .shr h_] mem0 = some (Res.res y, m) := by
  refine zah (Tryz.f47.body.getD .skip) [.tmp 4] rfl rfl Tryz.func47 (by kernel_rfl) (by kernel_rfl) (by simp [Tryz.ntmps47]) rfl ?_
  unfold spec_IsHeap at hp
  obtain ⟨y_1, h_2, hp⟩ := zaa hp
  have c_3 := C49_eq h_2
  simp at c_3
  simp [Tryz.f47, c_3]
  rcases zad hp with ⟨h_4, hp⟩ | ⟨h_4, hp⟩
  ·try simp at h_4
   try simp [h_4]
   rcases zad hp with ⟨h_5, hp⟩ | ⟨h_5, hp⟩
   ·try simp at h_5
    cases hp
    simp [Goal, FnEnd, h_4, h_5]
   ·try simp at h_5
    try simp [h_4, h_5]
    rcases zad hp with ⟨h_6, hp⟩ | ⟨h_6, hp⟩
    ·try simp at h_6
     cases hp
     simp [Goal, FnEnd, h_4, h_5, h_6]
    ·try simp at h_6
     obtain ⟨y_7, h_8, hp⟩ := zaa hp
     have c_9 := C78_eq h_8
     simp at c_9
     try simp [h_4, h_5, h_6, c_9]
     rcases zad hp with ⟨h_10, hp⟩ | ⟨h_10, hp⟩
     ·try simp at h_10
      obtain ⟨y_11, h_12, hp⟩ := zaa hp
      have c_13 := C79_eq h_12
      simp at c_13
      try simp [h_4, h_5, h_6, h_10, c_13]
      rcases zad hp with ⟨h_14, hp⟩ | ⟨h_14, hp⟩
      ·try simp at h_14
       obtain ⟨y_15, h_16, hp⟩ := zaa hp
       have c_17 := C80_eq h_16
       simp at c_17
       try simp [h_4, h_5, h_6, h_10, h_14, c_17]
       obtain ⟨r_35, h_36, hp⟩ := zaa hp
       obtain ⟨I_20, I_20_⟩ : ∃ I : Int → St → Prop, I = (fun (s_18 : Int) (σ : St) => σ.env 3 = .one (.ptr (1, 3) 0) ∧ σ.env 5 = .one (.l .own y_15.length (encL y_15)) ∧ σ.env 6 = .one (.s (.int .i64 s_18)) ∧ σ.mem (1, 3) = some [(.l .shr h_.vars.length (encL h_.vars)), (.l .shr h_.next.length (encL h_.next))] ∧ NoBox [(1, 3)] σ.mem) := ⟨_, rfl⟩
       obtain ⟨X_21, X_21_⟩ : ∃ X : ((Unit) ⊕ (Unit)) → Out → Prop, X = (fun (r_35 : (Unit) ⊕ (Unit)) (out : Out) => Sum.elim (fun r_35 => ∃ σ : St, out = .ret σ ∧ σ.env 4 = .one (.s (.bool false)) ∧ σ.mem (1, 3) = some [(.l .shr h_.vars.length (encL h_.vars)), (.l .shr h_.next.length (encL h_.next))] ∧ NoBox [(1, 3)] σ.mem) (fun r_35 => ∃ σ : St, out = .exit 0 σ ∧ σ.env 3 = .one (.ptr (1, 3) 0) ∧ σ.env 5 = .one (.l .own y_15.length (encL y_15)) ∧ σ.mem (1, 3) = some [(.l .shr h_.vars.length (encL h_.vars)), (.l .shr h_.next.length (encL h_.next))] ∧ NoBox [(1, 3)] σ.mem) r_35) := ⟨_, rfl⟩
       refine loopP ({ hd := [3, 5, 6], bx := [], ex := [3, 5], rt := [4] }) I_20 X_21 h_36 (by exact rfl) ?_ ?_ ?_
       ·rw [I_20_]
        refine ⟨?_, ?_, ?_, ?_, NoBox.restrict (by intro k hk hb; simp at hk hb; simp [hk, hb, h_4, h_5, h_6, h_10, h_14])⟩ <;> simp [zab, zac, h_4, h_5, h_6, h_10, h_14]
       ·intro s_18 σ_22 a_19 hI hp
        rw [I_20_] at hI
        obtain ⟨q_23, q_24, q_25, q_26, hn_27⟩ := hI
        try simp [h_4, h_5, h_6, h_10, h_14, q_23, q_24, q_25, q_26]
        rcases zad hp with ⟨h_28, hp⟩ | ⟨h_28, hp⟩
        ·try simp at h_28
         obtain ⟨e_29, h_30, hp⟩ := zaa hp
         have b_31 := at_lo h_30
         have b_32 := at_hi h_30
         try simp at b_31 b_32
         have c_33 := seg_at' h_30 0 1 (by decide) (ds := [.sc (.int .i64 e_29)]) rfl
         try simp at c_33
         try simp [h_4, h_5, h_6, h_10, h_14, q_23, q_24, q_25, q_26, h_28, b_31, b_32, c_33]
         rcases zad hp with ⟨h_34, hp⟩ | ⟨h_34, hp⟩
         ·try simp at h_34
          cases hp
          try simp [h_4, h_5, h_6, h_10, h_14, q_23, q_24, q_25, q_26, h_28, h_34]
          refine zao ?_
          rw [X_21_]
          refine ⟨_, rfl, ?_, ?_, NoBox.restrict (by intro k hk hb; simp at hk hb; simp [hk, hb, h_4, h_5, h_6, h_10, h_14, q_23, q_24, q_25, q_26, h_28, h_34, hn_27 k (by simp [hk, hb])])⟩ <;> simp [zab, zac, h_4, h_5, h_6, h_10, h_14, q_23, q_24, q_25, q_26, h_28, h_34]
         ·try simp at h_34
          cases hp
          try simp [h_4, h_5, h_6, h_10, h_14, q_23, q_24, q_25, q_26, h_28, h_34]
          refine zak ?_
          rw [I_20_]
          refine ⟨?_, ?_, ?_, ?_, NoBox.restrict (by intro k hk hb; simp at hk hb; simp [hk, hb, h_4, h_5, h_6, h_10, h_14, q_23, q_24, q_25, q_26, h_28, h_34, hn_27 k (by simp [hk, hb])])⟩ <;> simp [zab, zac, h_4, h_5, h_6, h_10, h_14, q_23, q_24, q_25, q_26, h_28, h_34]
        ·try simp at h_28
         cases hp
         try simp [h_4, h_5, h_6, h_10, h_14, q_23, q_24, q_25, q_26, h_28]
         refine zan ?_
         rw [X_21_]
         refine ⟨_, rfl, ?_, ?_, ?_, NoBox.restrict (by intro k hk hb; simp at hk hb; simp [hk, hb, h_4, h_5, h_6, h_10, h_14, q_23, q_24, q_25, q_26, h_28, hn_27 k (by simp [hk, hb])])⟩ <;> simp [zab, zac, h_4, h_5, h_6, h_10, h_14, q_23, q_24, q_25, q_26, h_28]
       ·intro out hX
        rw [X_21_] at hX
        rcases r_35 with r_35 | r_35
        ·simp only [Sum.elim_inl, Sum.elim_inr] at hX hp
         obtain ⟨σ_37, rfl, q_38, q_39, hn_40⟩ := hX
         cases hp
         simp [Goal, FnEnd, h_4, h_5, h_6, h_10, h_14, q_38, q_39]
        ·simp only [Sum.elim_inl, Sum.elim_inr] at hX hp
         obtain ⟨σ_41, rfl, q_42, q_43, q_44, hn_45⟩ := hX
         cases hp
         simp [Goal, FnEnd, h_4, h_5, h_6, h_10, h_14, q_42, q_43, q_44]
      ·try simp at h_14
       cases hp
       simp [Goal, FnEnd, h_4, h_5, h_6, h_10, h_14]
     ·try simp at h_10
      cases hp
      simp [Goal, FnEnd, h_4, h_5, h_6, h_10]
  ·try simp at h_4
   cases hp
   simp [Goal, FnEnd, h_4]
theorem pc47 : PC Tryz.prog 47 C47 := pc_of (g := g47) (zai [(49, C49), (78, C78), (79, C79), (80, C80)] rfl ⟨pc49, pc78, pc79, pc80, trivial⟩) ⟨Tryz.f47, Tryz.func47, by kernel_rfl, by kernel_rfl⟩ fun x y h => w47 h

noncomputable def C48 : List AV → Option AV := specP (X := THeap × Unit) fun x => spec_l7Copy x.1
theorem C48_eq {h_} {y} (h : spec_l7Copy h_ = some y) : C48 [av .shr h_] = some (Res.res y) := zag (X := THeap × Unit) (F := fun x => spec_l7Copy x.1) (x := (h_, ())) h
noncomputable def g48 : Cfg := { P := Tryz.prog, take := [], keep := [], gho := [], ctx := [] }
@[simp] theorem g48_s : g48.P = Tryz.prog ∧ g48.take = [] ∧ g48.gho = [] ∧ g48.ro = [] ∧ g48.away = [] ∧ g48.give = [] ∧ g48.octx = [] := by rw [g48]; exact ⟨rfl, rfl, rfl, rfl, rfl, rfl, rfl⟩
theorem w48 {h_} {y} (hp : spec_l7Copy h_ = some y) : ∃ m, callo g48 0 48 [av .shr h_] mem0 = some (Res.res y, m) := by
  refine zah (Tryz.f48.body.getD .skip) [.cell 2 31] rfl rfl Tryz.func48 (by kernel_rfl) (by kernel_rfl) (by simp [Tryz.ntmps48]) rfl ?_
  unfold spec_l7Copy at hp
  obtain ⟨_, h_1, hp⟩ := zaa hp
  have b_2 := room_ok h_1
  try simp at b_2
  obtain ⟨_, h_3, hp⟩ := zaa hp
  have b_4 := room_ok h_3
  try simp at b_4
  cases hp
  simp [Tryz.f48, Goal, FnEnd, retR, rsrc, RSrc.val, nodupR, nodup, tupPart, b_2, b_4]
theorem pc48 : PC Tryz.prog 48 C48 := pc_of (g := g48) (zai [] rfl trivial) ⟨Tryz.f48, Tryz.func48, by kernel_rfl, by kernel_rfl⟩ fun x y h => w48 h

noncomputable def C81 : List AV → Option AV := specP (X := Int × Int × Unit) fun x => spec_l1Max x.1 x.2.1
theorem C81_eq {a_ b_} {y} (h : spec_l1Max a_ b_ = some y) : C81 [av .shr a_, av .shr b_] = some (Res.res y) := zag (X := Int × Int × Unit) (F := fun x => spec_l1Max x.1 x.2.1) (x := (a_, b_, ())) h
noncomputable def g81 : Cfg := { P := Tryz.prog, take := [], keep := [], gho := [], ctx := [] }
@[simp] theorem g81_s : g81.P = Tryz.prog ∧ g81.take = [] ∧ g81.gho = [] ∧ g81.ro = [] ∧ g81.away = [] ∧ g81.give = [] ∧ g81.octx = [] := by rw [g81]; exact ⟨rfl, rfl, rfl, rfl, rfl, rfl, rfl⟩
theorem w81 {a_ b_} {y} (hp : spec_l1Max a_ b_ = some y) : ∃ m, callo g81 0 81 [av .shr a_, av .shr b_] mem0 = some (Res.res y, m) := by
  refine zah (Tryz.f81.body.getD .skip) [.tmp 4] rfl rfl Tryz.func81 (by kernel_rfl) (by kernel_rfl) (by simp [Tryz.ntmps81]) rfl ?_
  unfold spec_l1Max at hp
  simp [Tryz.f81]
  rcases zad hp with ⟨h_1, hp⟩ | ⟨h_1, hp⟩
  ·try simp at h_1
   cases hp
   simp [Goal, FnEnd, h_1]
  ·try simp at h_1
   cases hp
   simp [Goal, FnEnd, h_1]
theorem pc81 : PC Tryz.prog 81 C81 := pc_of (g := g81) (zai [] rfl trivial) ⟨Tryz.f81, Tryz.func81, by kernel_rfl, by kernel_rfl⟩ fun x y h => w81 h

noncomputable def C83 : List AV → Option AV := specP (X := TStmt × Unit) fun x => spec_IsTest x.1
theorem C83_eq {s} {y} (h : spec_IsTest s = some y) : C83 [av .shr s] = some (Res.res y) := zag (X := TStmt × Unit) (F := fun x => spec_IsTest x.1) (x := (s, ())) h
noncomputable def g83 : Cfg := { P := Tryz.prog, take := [], keep := [], gho := [], ctx := [(49, C49)] }
@[simp] theorem g83_s : g83.P = Tryz.prog ∧ g83.take = [] ∧ g83.gho = [] ∧ g83.ro = [] ∧ g83.away = [] ∧ g83.give = [] ∧ g83.octx = [] ∧ lookN 49 g83.ctx = some C49 := by rw [g83]; exact ⟨rfl, rfl, rfl, rfl, rfl, rfl, rfl, rfl⟩
theorem w83 {s} {y} (hp : spec_IsTest s = some y) : ∃ m, callo g83 0 83 [av .shr s] mem0 = some (Res.res y, m) := by
  refine zah (Tryz.f83.body.getD .skip) [.tmp 2] rfl rfl Tryz.func83 (by kernel_rfl) (by kernel_rfl) (by simp [Tryz.ntmps83]) rfl ?_
  unfold spec_IsTest at hp
  obtain ⟨y_1, h_2, hp⟩ := zaa hp
  have c_3 := C49_eq h_2
  simp at c_3
  cases hp
  simp [Tryz.f83, Goal, FnEnd, c_3]
theorem pc83 : PC Tryz.prog 83 C83 := pc_of (g := g83) (zai [(49, C49)] rfl ⟨pc49, trivial⟩) ⟨Tryz.f83, Tryz.func83, by kernel_rfl, by kernel_rfl⟩ fun x y h => w83 h

noncomputable def C84 : List AV → Option AV := specP (X := Int × Int × Int × Unit) fun x => spec_l8Test x.1 x.2.1 x.2.2.1
theorem C84_eq {kind a_ b_} {y} (h : spec_l8Test kind a_ b_ = some y) : C84 [av .shr kind, av .shr a_, av .shr b_] = some (Res.res y) := zag (X := Int × Int × Int × Unit) (F := fun x => spec_l8Test x.1 x.2.1 x.2.2.1) (x := (kind, a_, b_, ())) h
noncomputable def g84 : Cfg := { P := Tryz.prog, take := [], keep := [], gho := [], ctx := [] }
@[simp] theorem g84_s : g84.P = Tryz.prog ∧ g84.take = [] ∧ g84.gho = [] ∧ g84.ro = [] ∧ g84.away = [] ∧ g84.give = [] ∧ g84.octx = [] := by rw [g84]; exact ⟨rfl, rfl, rfl, rfl, rfl, rfl, rfl⟩
theorem w84 {kind a_ b_} {y} (hp : spec_l8Test kind a_ b_ = some y) : ∃ m, callo g84 0 84 [av .shr kind, av .shr a_, av .shr b_] mem0 = some (Res.res y, m) := by
  refine zah (Tryz.f84.body.getD .skip) [.tmp 6] rfl rfl Tryz.func84 (by kernel_rfl) (by kernel_rfl) (by simp [Tryz.ntmps84]) rfl ?_
  unfold spec_l8Test at hp
  simp [Tryz.f84]
  rcases zad hp with ⟨h_1, hp⟩ | ⟨h_1, hp⟩
  ·try simp at h_1
   cases hp
   simp [Goal, FnEnd, h_1]
  ·try simp at h_1
   try simp [h_1]
   rcases zad hp with ⟨h_2, hp⟩ | ⟨h_2, hp⟩
   ·try simp at h_2
    cases hp
    simp [Goal, FnEnd, h_1, h_2]
   ·try simp at h_2
    try simp [h_1, h_2]
    rcases zad hp with ⟨h_3, hp⟩ | ⟨h_3, hp⟩
    ·try simp at h_3
     cases hp
     simp [Goal, FnEnd, h_1, h_2, h_3]
    ·try simp at h_3
     cases hp
     simp [Goal, FnEnd, h_1, h_2, h_3]
theorem pc84 : PC Tryz.prog 84 C84 := pc_of (g := g84) (zai [] rfl trivial) ⟨Tryz.f84, Tryz.func84, by kernel_rfl, by kernel_rfl⟩ fun x y h => w84 h

noncomputable def C85 : List AV → Option AV := specP (X := TStmt × THeap × Int × Int × Unit) fun x => spec_l8Null x.1 x.2.1 x.2.2.1 x.2.2.2.1
theorem C85_eq {s h_ a_ b_} {y} (h : spec_l8Null s h_ a_ b_ = some y) : C85 [av .shr s, av .shr h_, av .shr a_, av .shr b_] = some (Res.res y) := zag (X := TStmt × THeap × Int × Int × Unit) (F := fun x => spec_l8Null x.1 x.2.1 x.2.2.1 x.2.2.2.1) (x := (s, h_, a_, b_, ())) h
noncomputable def g85 : Cfg := { P := Tryz.prog, take := [], keep := [], gho := [], ctx := [] }
@[simp] theorem g85_s : g85.P = Tryz.prog ∧ g85.take = [] ∧ g85.gho = [] ∧ g85.ro = [] ∧ g85.away = [] ∧ g85.give = [] ∧ g85.octx = [] := by rw [g85]; exact ⟨rfl, rfl, rfl, rfl, rfl, rfl, rfl⟩
theorem w85 {s h_ a_ b_} {y} (hp : spec_l8Null s h_ a_ b_ = some y) : ∃ m, callo g85 0 85 [av .shr s, av .shr h_, av .shr a_, av .shr b_] mem0 = some (Res.res y, m) := by
  refine zah (Tryz.f85.body.getD .skip) [.tmp 8] rfl rfl Tryz.func85 (by kernel_rfl) (by kernel_rfl) (by simp [Tryz.ntmps85]) rfl ?_
  unfold spec_l8Null at hp
  simp [Tryz.f85]
  rcases zad hp with ⟨h_1, hp⟩ | ⟨h_1, hp⟩
  ·try simp at h_1
   obtain ⟨e_2, h_3, hp⟩ := zaa hp
   have b_4 := at_lo h_3
   have b_5 := at_hi h_3
   try simp at b_4 b_5
   have c_6 := seg_at' h_3 0 1 (by decide) (ds := [.sc (.int .i64 e_2)]) rfl
   try simp at c_6
   cases hp
   simp [Goal, FnEnd, h_1, b_4, b_5, c_6]
  ·try simp at h_1
   try simp [h_1]
   rcases zad hp with ⟨h_7, hp⟩ | ⟨h_7, hp⟩
   ·try simp at h_7
    obtain ⟨e_8, h_9, hp⟩ := zaa hp
    have b_10 := at_lo h_9
    have b_11 := at_hi h_9
    try simp at b_10 b_11
    have c_12 := seg_at' h_9 0 1 (by decide) (ds := [.sc (.int .i64 e_8)]) rfl
    try simp at c_12
    cases hp
    simp [Goal, FnEnd, h_1, h_7, b_10, b_11, c_12]
   ·try simp at h_7
    try simp [h_1, h_7]
    rcases zad hp with ⟨h_13, hp⟩ | ⟨h_13, hp⟩
    ·try simp at h_13
     obtain ⟨e_14, h_15, hp⟩ := zaa hp
     have b_16 := at_lo h_15
     have b_17 := at_hi h_15
     try simp at b_16 b_17
     have c_18 := seg_at' h_15 0 1 (by decide) (ds := [.sc (.int .i64 e_14)]) rfl
     try simp at c_18
     cases hp
     simp [Goal, FnEnd, h_1, h_7, h_13, b_16, b_17, c_18]
    ·try simp at h_13
     try simp [h_1, h_7, h_13]
     rcases zad hp with ⟨h_19, hp⟩ | ⟨h_19, hp⟩
     ·try simp at h_19
      obtain ⟨e_20, h_21, hp⟩ := zaa hp
      have b_22 := at_lo h_21
      have b_23 := at_hi h_21
      try simp at b_22 b_23
      have c_24 := seg_at' h_21 0 1 (by decide) (ds := [.sc (.int .i64 e_20)]) rfl
      try simp at c_24
      cases hp
      simp [Goal, FnEnd, h_1, h_7, h_13, h_19, b_22, b_23, c_24]
     ·try simp at h_19
      cases hp
      simp [Goal, FnEnd, h_1, h_7, h_13, h_19]
theorem pc85 : PC Tryz.prog 85 C85 := pc_of (g := g85) (zai [] rfl trivial) ⟨Tryz.f85, Tryz.func85, by kernel_rfl, by kernel_rfl⟩ fun x y h => w85 h

noncomputable def C64 : List AV → Option AV := specP (X := Bool × Unit) fun x => spec_l1Bit x.1
theorem C64_eq {on} {y} (h : spec_l1Bit on = some y) : C64 [av .shr on] = some (Res.res y) := zag (X := Bool × Unit) (F := fun x => spec_l1Bit x.1) (x := (on, ())) h
noncomputable def g64 : Cfg := { P := Tryz.prog, take := [], keep := [], gho := [], ctx := [] }
@[simp] theorem g64_s : g64.P = Tryz.prog ∧ g64.take = [] ∧ g64.gho = [] ∧ g64.ro = [] ∧ g64.away = [] ∧ g64.give = [] ∧ g64.octx = [] := by rw [g64]; exact ⟨rfl, rfl, rfl, rfl, rfl, rfl, rfl⟩
theorem w64 {on} {y} (hp : spec_l1Bit on = some y) : ∃ m, callo g64 0 64 [av .shr on] mem0 = some (Res.res y, m) := by
  refine zah (Tryz.f64.body.getD .skip) [.tmp 2] rfl rfl Tryz.func64 (by kernel_rfl) (by kernel_rfl) (by simp [Tryz.ntmps64]) rfl ?_
  unfold spec_l1Bit at hp
  simp [Tryz.f64]
  rcases zad hp with ⟨h_1, hp⟩ | ⟨h_1, hp⟩
  ·try simp at h_1
   cases hp
   simp [Goal, FnEnd, h_1]
  ·try simp at h_1
   cases hp
   simp [Goal, FnEnd, h_1]
theorem pc64 : PC Tryz.prog 64 C64 := pc_of (g := g64) (zai [] rfl trivial) ⟨Tryz.f64, Tryz.func64, by kernel_rfl, by kernel_rfl⟩ fun x y h => w64 h

noncomputable def C152 : List AV → Option AV := specP (X := THeap × Int × Unit) fun x => spec_l8Without x.1 x.2.1
theorem C152_eq {h_ cell} {y} (h : spec_l8Without h_ cell = some y) : C152 [av .shr h_, av .shr cell] = some (Res.res y) := zag (X := THeap × Int × Unit) (F := fun x => spec_l8Without x.1 x.2.1) (x := (h_, cell, ())) h
noncomputable def g152 : Cfg := { P := Tryz.prog, take := [(152, 17), (152, 46), (152, 64)], keep := [((152, 3), { hd := [1, 2, 4, 5, 6], bx := [], ex := [1, 2, 4, 5], rt := [4] }), ((152, 7), { hd := [1, 2, 4, 5, 7], bx := [], ex := [4, 5], rt := [4] })], gho := [], ctx := [(64, C64)] }
@[simp] theorem g152_s : g152.P = Tryz.prog ∧ g152.take = [(152, 17), (152, 46), (152, 64)] ∧ g152.gho = [] ∧ g152.ro = [] ∧ g152.away = [] ∧ g152.give = [] ∧ g152.octx = [] ∧ lookN 64 g152.ctx = some C64 := by rw [g152]; exact ⟨rfl, rfl, rfl, rfl, rfl, rfl, rfl, rfl⟩
theorem w152 {h_ cell} {y} (hp : spec_l8Without h_ cell = some y) : ∃ m, callo g152 0 152 [av .shr h_, av .shr cell] mem0 = some (Res.res y, m) := by
  refine zah (Tryz.f152.body.getD .skip) [.cell 4 31] rfl rfl Tryz.func152 (by kernel_rfl) (by kernel_rfl) (by simp [Tryz.ntmps152]) rfl ?_
  unfold spec_l8Without at hp
  simp [Tryz.f152]
  obtain ⟨r_31, h_32, hp⟩ := zaa hp
  obtain ⟨I_3, I_3_⟩ : ∃ I : Int × (List Int) → St → Prop, I = (fun (s_1 : Int × (List Int)) (σ : St) => σ.env 1 = .one (.s (.int .i64 cell)) ∧ σ.env 2 = .one (.ptr (1, 2) 0) ∧ σ.env 4 = .one (.ptr (1, 4) 0) ∧ σ.env 5 = .one (.ptr (1, 5) 0) ∧ σ.env 6 = .one (.s (.int .i64 s_1.1)) ∧ σ.mem (1, 2) = some [(.l .shr h_.vars.length (encL h_.vars)), (.l .shr h_.next.length (encL h_.next))] ∧ σ.mem (1, 4) = some [(.l .own 0 []), (.l .own 0 [])] ∧ σ.mem (1, 5) = some [(.l .own s_1.2.length (encL s_1.2)), (.l .own 0 [])] ∧ NoBox [(1, 2), (1, 4), (1, 5)] σ.mem) := ⟨_, rfl⟩
  obtain ⟨X_4, X_4_⟩ : ∃ X : (List Int) → Out → Prop, X = (fun (r_31 : (List Int)) (out : Out) => ∃ σ : St, out = .exit 0 σ ∧ σ.env 1 = .one (.s (.int .i64 cell)) ∧ σ.env 2 = .one (.ptr (1, 2) 0) ∧ σ.env 4 = .one (.ptr (1, 4) 0) ∧ σ.env 5 = .one (.ptr (1, 5) 0) ∧ σ.mem (1, 2) = some [(.l .shr h_.vars.length (encL h_.vars)), (.l .shr h_.next.length (encL h_.next))] ∧ σ.mem (1, 4) = some [(.l .own 0 []), (.l .own 0 [])] ∧ σ.mem (1, 5) = some [(.l .own r_31.length (encL r_31)), (.l .own 0 [])] ∧ NoBox [(1, 2), (1, 4), (1, 5)] σ.mem) := ⟨_, rfl⟩
  refine loopP ({ hd := [1, 2, 4, 5, 6], bx := [], ex := [1, 2, 4, 5], rt := [4] }) I_3 X_4 h_32 (by exact rfl) ?_ ?_ ?_
  ·rw [I_3_]
   refine ⟨?_, ?_, ?_, ?_, ?_, ?_, ?_, ?_, NoBox.restrict (by intro k hk hb; simp at hk hb; simp [hk, hb])⟩ <;> simp [zab, zac]
  ·intro s_1 σ_5 a_2 hI hp
   rw [I_3_] at hI
   obtain ⟨q_6, q_7, q_8, q_9, q_10, q_11, q_12, q_13, hn_14⟩ := hI
   try simp [q_6, q_7, q_8, q_9, q_10, q_11, q_12, q_13]
   rcases zad hp with ⟨h_15, hp⟩ | ⟨h_15, hp⟩
   ·try simp at h_15
    obtain ⟨e_16, h_17, hp⟩ := zaa hp
    have b_18 := at_lo h_17
    have b_19 := at_hi h_17
    try simp at b_18 b_19
    have c_20 := seg_at' h_17 0 1 (by decide) (ds := [.sc (.int .i64 e_16)]) rfl
    try simp at c_20
    obtain ⟨e_21, h_22, hp⟩ := zaa hp
    cases Option.some.inj (h_17.symm.trans h_22)
    have b_23 := at_lo h_17
    have b_24 := at_hi h_17
    try simp at b_23 b_24
    have c_25 := seg_at' h_17 0 1 (by decide) (ds := [.sc (.int .i64 e_16)]) rfl
    try simp at c_25
    obtain ⟨y_26, h_27, hp⟩ := zaa hp
    have c_28 := C64_eq h_27
    simp at c_28
    obtain ⟨_, h_29, hp⟩ := zaa hp
    have b_30 := room_ok h_29
    try simp at b_30
    cases hp
    try simp [q_6, q_7, q_8, q_9, q_10, q_11, q_12, q_13, h_15, b_18, b_19, c_20, b_23, b_24, c_25, c_28, b_30]
    refine zak ?_
    rw [I_3_]
    refine ⟨?_, ?_, ?_, ?_, ?_, ?_, ?_, ?_, NoBox.restrict (by intro k hk hb; simp at hk hb; simp [hk, hb, q_6, q_7, q_8, q_9, q_10, q_11, q_12, q_13, h_15, b_18, b_19, c_20, b_23, b_24, c_25, c_28, b_30, hn_14 k (by simp [hk, hb])])⟩ <;> simp [zab, zac, q_6, q_7, q_8, q_9, q_10, q_11, q_12, q_13, h_15, b_18, b_19, c_20, b_23, b_24, c_25, c_28, b_30]
   ·try simp at h_15
    cases hp
    try simp [q_6, q_7, q_8, q_9, q_10, q_11, q_12, q_13, h_15]
    refine zan ?_
    rw [X_4_]
    refine ⟨_, rfl, ?_, ?_, ?_, ?_, ?_, ?_, ?_, NoBox.restrict (by intro k hk hb; simp at hk hb; simp [hk, hb, q_6, q_7, q_8, q_9, q_10, q_11, q_12, q_13, h_15, hn_14 k (by simp [hk, hb])])⟩ <;> simp [zab, zac, q_6, q_7, q_8, q_9, q_10, q_11, q_12, q_13, h_15]
  ·intro out hX
   rw [X_4_] at hX
   obtain ⟨σ_33, rfl, q_34, q_35, q_36, q_37, q_38, q_39, q_40, hn_41⟩ := hX
   try simp [q_34, q_35, q_36, q_37, q_38, q_39, q_40]
   obtain ⟨r_73, h_74, hp⟩ := zaa hp
   obtain ⟨I_44, I_44_⟩ : ∃ I : Int × (List Int) → St → Prop, I = (fun (s_42 : Int × (List Int)) (σ : St) => σ.env 1 = .one (.s (.int .i64 cell)) ∧ σ.env 2 = .one (.ptr (1, 2) 0) ∧ σ.env 4 = .one (.ptr (1, 4) 0) ∧ σ.env 5 = .one (.ptr (1, 5) 0) ∧ σ.env 7 = .one (.s (.int .i64 s_42.1)) ∧ σ.mem (1, 2) = some [(.l .shr h_.vars.length (encL h_.vars)), (.l .shr h_.next.length (encL h_.next))] ∧ σ.mem (1, 4) = some [(.l .own 0 []), (.l .own 0 [])] ∧ σ.mem (1, 5) = some [(.l .own r_31.length (encL r_31)), (.l .own s_42.2.length (encL s_42.2))] ∧ NoBox [(1, 2), (1, 4), (1, 5)] σ.mem) := ⟨_, rfl⟩
   obtain ⟨X_45, X_45_⟩ : ∃ X : (List Int) → Out → Prop, X = (fun (r_73 : (List Int)) (out : Out) => ∃ σ : St, out = .exit 2 σ ∧ σ.env 4 = .one (.ptr (1, 4) 0) ∧ σ.env 5 = .one (.ptr (1, 5) 0) ∧ σ.mem (1, 2) = some [(.l .shr h_.vars.length (encL h_.vars)), (.l .shr h_.next.length (encL h_.next))] ∧ σ.mem (1, 4) = some [(.l .own 0 []), (.l .own 0 [])] ∧ σ.mem (1, 5) = some [(.l .own r_31.length (encL r_31)), (.l .own r_73.length (encL r_73))] ∧ NoBox [(1, 2), (1, 4), (1, 5)] σ.mem) := ⟨_, rfl⟩
   refine loopP ({ hd := [1, 2, 4, 5, 7], bx := [], ex := [4, 5], rt := [4] }) I_44 X_45 h_74 (by exact rfl) ?_ ?_ ?_
   ·rw [I_44_]
    refine ⟨?_, ?_, ?_, ?_, ?_, ?_, ?_, ?_, NoBox.restrict (by intro k hk hb; simp at hk hb; simp [hk, hb, q_34, q_35, q_36, q_37, q_38, q_39, q_40, hn_41 k (by simp [hk, hb])])⟩ <;> simp [zab, zac, q_34, q_35, q_36, q_37, q_38, q_39, q_40]
   ·intro s_42 σ_46 a_43 hI hp
    rw [I_44_] at hI
    obtain ⟨q_47, q_48, q_49, q_50, q_51, q_52, q_53, q_54, hn_55⟩ := hI
    try simp [q_47, q_48, q_49, q_50, q_51, q_52, q_53, q_54]
    rcases zad hp with ⟨h_56, hp⟩ | ⟨h_56, hp⟩
    ·try simp at h_56
     try simp [q_47, q_48, q_49, q_50, q_51, q_52, q_53, q_54, h_56]
     rcases zad hp with ⟨h_57, hp⟩ | ⟨h_57, hp⟩
     ·try simp at h_57
      obtain ⟨e_58, h_59, hp⟩ := zaa hp
      have b_60 := at_lo h_59
      have b_61 := at_hi h_59
      try simp at b_60 b_61
      have c_62 := seg_at' h_59 0 1 (by decide) (ds := [.sc (.int .i64 e_58)]) rfl
      try simp at c_62
      obtain ⟨e_63, h_64, hp⟩ := zaa hp
      cases Option.some.inj (h_59.symm.trans h_64)
      have b_65 := at_lo h_59
      have b_66 := at_hi h_59
      try simp at b_65 b_66
      have c_67 := seg_at' h_59 0 1 (by decide) (ds := [.sc (.int .i64 e_58)]) rfl
      try simp at c_67
      obtain ⟨y_68, h_69, hp⟩ := zaa hp
      have c_70 := C64_eq h_69
      simp at c_70
      obtain ⟨_, h_71, hp⟩ := zaa hp
      have b_72 := room_ok h_71
      try simp at b_72
      cases hp
      try simp [q_47, q_48, q_49, q_50, q_51, q_52, q_53, q_54, h_56, h_57, b_60, b_61, c_62, b_65, b_66, c_67, c_70, b_72]
      refine zak ?_
      rw [I_44_]
      refine ⟨?_, ?_, ?_, ?_, ?_, ?_, ?_, ?_, NoBox.restrict (by intro k hk hb; simp at hk hb; simp [hk, hb, q_47, q_48, q_49, q_50, q_51, q_52, q_53, q_54, h_56, h_57, b_60, b_61, c_62, b_65, b_66, c_67, c_70, b_72, hn_55 k (by simp [hk, hb])])⟩ <;> simp [zab, zac, q_47, q_48, q_49, q_50, q_51, q_52, q_53, q_54, h_56, h_57, b_60, b_61, c_62, b_65, b_66, c_67, c_70, b_72]
     ·try simp at h_57
      cases hp
      try simp [q_47, q_48, q_49, q_50, q_51, q_52, q_53, q_54, h_56, h_57]
      refine zak ?_
      rw [I_44_]
      refine ⟨?_, ?_, ?_, ?_, ?_, ?_, ?_, ?_, NoBox.restrict (by intro k hk hb; simp at hk hb; simp [hk, hb, q_47, q_48, q_49, q_50, q_51, q_52, q_53, q_54, h_56, h_57, hn_55 k (by simp [hk, hb])])⟩ <;> simp [zab, zac, q_47, q_48, q_49, q_50, q_51, q_52, q_53, q_54, h_56, h_57]
    ·try simp at h_56
     cases hp
     try simp [q_47, q_48, q_49, q_50, q_51, q_52, q_53, q_54, h_56]
     refine zan ?_
     rw [X_45_]
     refine ⟨_, rfl, ?_, ?_, ?_, ?_, ?_, NoBox.restrict (by intro k hk hb; simp at hk hb; simp [hk, hb, q_47, q_48, q_49, q_50, q_51, q_52, q_53, q_54, h_56, hn_55 k (by simp [hk, hb])])⟩ <;> simp [zab, zac, q_47, q_48, q_49, q_50, q_51, q_52, q_53, q_54, h_56]
   ·intro out hX
    rw [X_45_] at hX
    obtain ⟨σ_75, rfl, q_76, q_77, q_78, q_79, q_80, hn_81⟩ := hX
    cases hp
    simp [Goal, FnEnd, retR, rsrc, RSrc.val, nodupR, nodup, tupPart, q_76, q_77, q_78, q_79, q_80]
theorem pc152 : PC Tryz.prog 152 C152 := pc_of (g := g152) (zai [(64, C64)] rfl ⟨pc64, trivial⟩) ⟨Tryz.f152, Tryz.func152, by kernel_rfl, by kernel_rfl⟩ fun x y h => w152 h

noncomputable def C129 : List AV → Option AV := specO (X := THeap × Int × Unit) fun x => spec_l8Free x.1 x.2.1
theorem C129_eq {h_ a_} {y} (h : spec_l8Free h_ a_ = some y) : C129 [av .own h_, av .own a_] = some (Res.res y) := specO_eq (X := THeap × Int × Unit) (F := fun x => spec_l8Free x.1 x.2.1) (x := (h_, a_, ())) h
noncomputable def g129 : Cfg := { P := Tryz.prog, take := [], keep := [], gho := [((129, 4), [.thaw (.at 2 0) 1032 1]), ((129, 2000004), [.frz (.at 2 0)])], ctx := [(128, C128), (151, C151), (152, C152)] }
@[simp] theorem g129_s : g129.P = Tryz.prog ∧ g129.take = [] ∧ g129.gho = [((129, 4), [.thaw (.at 2 0) 1032 1]), ((129, 2000004), [.frz (.at 2 0)])] ∧ g129.ro = [] ∧ g129.away = [] ∧ g129.give = [] ∧ g129.octx = [] ∧ lookN 128 g129.ctx = some C128 ∧ lookN 151 g129.ctx = some C151 ∧ lookN 152 g129.ctx = some C152 := by rw [g129]; exact ⟨rfl, rfl, rfl, rfl, rfl, rfl, rfl, rfl, rfl, rfl⟩
theorem w129 {h_ a_} {y} (hp : spec_l8Free h_ a_ = some y) : ∃ m, callo g129 0 129 [av .own h_, av .own a_] mem0 = some (Res.res y, m) := by
  refine zah (Tryz.f129.body.getD .skip) [.cell 4 31, .tmp 5] rfl rfl Tryz.func129 (by kernel_rfl) (by kernel_rfl) (by simp [Tryz.ntmps129]) rfl ?_
  unfold spec_l8Free at hp
  obtain ⟨e_1, h_2, hp⟩ := zaa hp
  have b_3 := at_lo h_2
  have b_4 := at_hi h_2
  try simp at b_3 b_4
  have c_5 := seg_at' h_2 0 1 (by decide) (ds := [.sc (.int .i64 e_1)]) rfl
  try simp at c_5
  obtain ⟨y_6, h_7, hp⟩ := zaa hp
  have c_8 := C151_eq h_7
  simp at c_8
  simp [Tryz.f129, b_3, b_4, c_5, c_8]
  rcases zad hp with ⟨h_9, hp⟩ | ⟨h_9, hp⟩
  ·try simp at h_9
   cases hp
   simp [Goal, FnEnd, retR, rsrc, RSrc.val, nodupR, nodup, tupPart, h_9]
  ·try simp at h_9
   obtain ⟨y_10, h_11, hp⟩ := zaa hp
   have c_12 := C128_eq h_11
   simp at c_12
   try simp [h_9, c_12]
   rcases zad hp with ⟨h_13, hp⟩ | ⟨h_13, hp⟩
   ·try simp at h_13
    cases hp
    simp [Goal, FnEnd, retR, rsrc, RSrc.val, nodupR, nodup, tupPart, h_9, h_13]
   ·try simp at h_13
    try simp [h_9, h_13]
    obtain ⟨e_14, h_15, hp⟩ := zaa hp
    cases Option.some.inj (h_2.symm.trans h_15)
    have b_16 := at_lo h_2
    have b_17 := at_hi h_2
    try simp at b_16 b_17
    have c_18 := splice_row h_2 0 (-1) [(.s (.int .i64 (-1)))] (by simp) rfl
    try simp at c_18
    have l_19 := row_room h_2 0 (m := 1) (by decide)
    try simp at l_19
    obtain ⟨y_20, h_21, hp⟩ := zaa hp
    have c_22 := C152_eq h_21
    simp at c_22
    cases hp
    simp [Goal, FnEnd, retR, rsrc, RSrc.val, nodupR, nodup, tupPart, h_9, h_13, b_16, b_17, c_18, l_19, c_22]
theorem po129 : PO Tryz.prog 129 C129 := po_of (g := g129) (zai [(128, C128), (151, C151), (152, C152)] rfl ⟨pc128, pc151, pc152, trivial⟩) rfl fun x y h => w129 h

noncomputable def C86 : List AV → Option AV := specO (X := TStmt × THeap × Int × Int × Unit) fun x => spec_l8Do x.1 x.2.1 x.2.2.1 x.2.2.2.1
theorem C86_eq {s h_ a_ b_} {y} (h : spec_l8Do s h_ a_ b_ = some y) : C86 [av .own s, av .own h_, av .own a_, av .own b_] = some (Res.res y) := specO_eq (X := TStmt × THeap × Int × Int × Unit) (F := fun x => spec_l8Do x.1 x.2.1 x.2.2.1 x.2.2.2.1) (x := (s, h_, a_, b_, ())) h
noncomputable def g86 : Cfg := { P := Tryz.prog, take := [(86, 30), (86, 101), (86, 102), (86, 107), (86, 109)], keep := [], gho := [((86, 3), [.thaw (.at 5 0) 1080 1]), ((86, 5), [.thaw (.at 5 0) 1080 1]), ((86, 8), [.thaw (.at 5 0) 1080 1]), ((86, 10), [.thaw (.at 5 0) 1080 1]), ((86, 12), [.thaw (.at 5 1) 1081 1]), ((86, 16), [.thaw (.at 5 1) 1081 1]), ((86, 2000003), [.frz (.at 5 0)]), ((86, 2000005), [.frz (.at 5 0)]), ((86, 2000008), [.frz (.at 5 0)]), ((86, 2000010), [.frz (.at 5 0)]), ((86, 2000012), [.frz (.at 5 1)]), ((86, 2000016), [.frz (.at 5 1)])], ctx := [(127, C127), (128, C128)], give := [(86, 104)], octx := [(129, C129)] }
@[simp] theorem g86_s : g86.P = Tryz.prog ∧ g86.take = [(86, 30), (86, 101), (86, 102), (86, 107), (86, 109)] ∧ g86.gho = [((86, 3), [.thaw (.at 5 0) 1080 1]), ((86, 5), [.thaw (.at 5 0) 1080 1]), ((86, 8), [.thaw (.at 5 0) 1080 1]), ((86, 10), [.thaw (.at 5 0) 1080 1]), ((86, 12), [.thaw (.at 5 1) 1081 1]), ((86, 16), [.thaw (.at 5 1) 1081 1]), ((86, 2000003), [.frz (.at 5 0)]), ((86, 2000005), [.frz (.at 5 0)]), ((86, 2000008), [.frz (.at 5 0)]), ((86, 2000010), [.frz (.at 5 0)]), ((86, 2000012), [.frz (.at 5 1)]), ((86, 2000016), [.frz (.at 5 1)])] ∧ g86.ro = [] ∧ g86.away = [] ∧ g86.give = [(86, 104)] ∧ g86.octx = [(129, C129)] ∧ lookN 127 g86.ctx = some C127 ∧ lookN 128 g86.ctx = some C128 := by rw [g86]; exact ⟨rfl, rfl, rfl, rfl, rfl, rfl, rfl, rfl, rfl⟩
theorem w86 {s h_ a_ b_} {y} (hp : spec_l8Do s h_ a_ b_ = some y) : ∃ m, callo g86 0 86 [av .own s, av .own h_, av .own a_, av .own b_] mem0 = some (Res.res y, m) := by
  refine zah (Tryz.f86.body.getD .skip) [.cell 8 31, .tmp 9] rfl rfl Tryz.func86 (by kernel_rfl) (by kernel_rfl) (by simp [Tryz.ntmps86]) rfl ?_
  unfold spec_l8Do at hp
  simp [Tryz.f86]
  rcases zad hp with ⟨h_1, hp⟩ | ⟨h_1, hp⟩
  ·try simp at h_1
   try simp [h_1]
   obtain ⟨e_2, h_3, hp⟩ := zaa hp
   have b_4 := at_lo h_3
   have b_5 := at_hi h_3
   try simp at b_4 b_5
   have c_6 := splice_row h_3 0 (-1) [(.s (.int .i64 (-1)))] (by simp) rfl
   try simp at c_6
   have l_7 := row_room h_3 0 (m := 1) (by decide)
   try simp at l_7
   cases hp
   simp [Goal, FnEnd, retR, rsrc, RSrc.val, nodupR, nodup, tupPart, h_1, b_4, b_5, c_6, l_7]
  ·try simp at h_1
   try simp [h_1]
   rcases zad hp with ⟨h_8, hp⟩ | ⟨h_8, hp⟩
   ·try simp at h_8
    try simp [h_1, h_8]
    obtain ⟨e_9, h_10, hp⟩ := zaa hp
    have b_11 := at_lo h_10
    have b_12 := at_hi h_10
    try simp at b_11 b_12
    have c_13 := splice_row h_10 0 (h_.next.length : Int) [(.s (.int .i64 (h_.next.length : Int)))] (by simp) rfl
    try simp at c_13
    have l_14 := row_room h_10 0 (m := 1) (by decide)
    try simp at l_14
    obtain ⟨_, h_15, hp⟩ := zaa hp
    have b_16 := room_ok h_15
    try simp at b_16
    cases hp
    simp [Goal, FnEnd, retR, rsrc, RSrc.val, nodupR, nodup, tupPart, h_1, h_8, b_11, b_12, c_13, l_14, b_16]
   ·try simp at h_8
    try simp [h_1, h_8]
    rcases zad hp with ⟨h_17, hp⟩ | ⟨h_17, hp⟩
    ·try simp at h_17
     try simp [h_1, h_8, h_17]
     obtain ⟨e_18, h_19, hp⟩ := zaa hp
     have b_20 := at_lo h_19
     have b_21 := at_hi h_19
     try simp at b_20 b_21
     have c_22 := seg_row h_19 0 1 (by decide) (ds := [.sc (.int .i64 e_18)]) rfl
     try simp at c_22
     obtain ⟨e_23, h_24, hp⟩ := zaa hp
     have b_25 := at_lo h_24
     have b_26 := at_hi h_24
     try simp at b_25 b_26
     have c_27 := splice_row h_24 0 e_18 [(.s (.int .i64 e_18))] (by simp) rfl
     try simp at c_27
     have l_28 := row_room h_24 0 (m := 1) (by decide)
     try simp at l_28
     cases hp
     simp [Goal, FnEnd, retR, rsrc, RSrc.val, nodupR, nodup, tupPart, h_1, h_8, h_17, b_20, b_21, c_22, b_25, b_26, c_27, l_28]
    ·try simp at h_17
     try simp [h_1, h_8, h_17]
     rcases zad hp with ⟨h_29, hp⟩ | ⟨h_29, hp⟩
     ·try simp at h_29
      try simp [h_1, h_8, h_17, h_29]
      obtain ⟨e_30, h_31, hp⟩ := zaa hp
      have b_32 := at_lo h_31
      have b_33 := at_hi h_31
      try simp at b_32 b_33
      have c_34 := seg_row h_31 0 1 (by decide) (ds := [.sc (.int .i64 e_30)]) rfl
      try simp at c_34
      obtain ⟨e_35, h_36, hp⟩ := zaa hp
      have b_37 := at_lo h_36
      have b_38 := at_hi h_36
      try simp at b_37 b_38
      have c_39 := seg_at' h_36 0 1 (by decide) (ds := [.sc (.int .i64 e_35)]) rfl
      try simp at c_39
      obtain ⟨e_40, h_41, hp⟩ := zaa hp
      have b_42 := at_lo h_41
      have b_43 := at_hi h_41
      try simp at b_42 b_43
      have c_44 := splice_row h_41 0 e_35 [(.s (.int .i64 e_35))] (by simp) rfl
      try simp at c_44
      have l_45 := row_room h_41 0 (m := 1) (by decide)
      try simp at l_45
      cases hp
      simp [Goal, FnEnd, retR, rsrc, RSrc.val, nodupR, nodup, tupPart, h_1, h_8, h_17, h_29, b_32, b_33, c_34, b_37, b_38, c_39, b_42, b_43, c_44, l_45]
     ·try simp at h_29
      try simp [h_1, h_8, h_17, h_29]
      rcases zad hp with ⟨h_46, hp⟩ | ⟨h_46, hp⟩
      ·try simp at h_46
       try simp [h_1, h_8, h_17, h_29, h_46]
       obtain ⟨e_47, h_48, hp⟩ := zaa hp
       have b_49 := at_lo h_48
       have b_50 := at_hi h_48
       try simp at b_49 b_50
       have c_51 := seg_at' h_48 0 1 (by decide) (ds := [.sc (.int .i64 e_47)]) rfl
       try simp at c_51
       obtain ⟨e_52, h_53, hp⟩ := zaa hp
       have b_54 := at_lo h_53
       have b_55 := at_hi h_53
       try simp at b_54 b_55
       have c_56 := splice_row h_53 0 (-1) [(.s (.int .i64 (-1)))] (by simp) rfl
       try simp at c_56
       have l_57 := row_room h_53 0 (m := 1) (by decide)
       try simp at l_57
       cases hp
       simp [Goal, FnEnd, retR, rsrc, RSrc.val, nodupR, nodup, tupPart, h_1, h_8, h_17, h_29, h_46, b_49, b_50, c_51, b_54, b_55, c_56, l_57]
      ·try simp at h_46
       try simp [h_1, h_8, h_17, h_29, h_46]
       rcases zad hp with ⟨h_58, hp⟩ | ⟨h_58, hp⟩
       ·try simp at h_58
        obtain ⟨e_59, h_60, hp⟩ := zaa hp
        have b_61 := at_lo h_60
        have b_62 := at_hi h_60
        try simp at b_61 b_62
        have c_63 := seg_at' h_60 0 1 (by decide) (ds := [.sc (.int .i64 e_59)]) rfl
        try simp at c_63
        obtain ⟨y_64, h_65, hp⟩ := zaa hp
        have c_66 := C127_eq h_65
        simp at c_66
        obtain ⟨e_67, h_68, hp⟩ := zaa hp
        have b_69 := at_lo h_68
        have b_70 := at_hi h_68
        try simp at b_69 b_70
        have c_71 := seg_at' h_68 0 1 (by decide) (ds := [.sc (.int .i64 e_67)]) rfl
        try simp at c_71
        obtain ⟨y_72, h_73, hp⟩ := zaa hp
        have c_74 := C128_eq h_73
        simp at c_74
        try simp [h_1, h_8, h_17, h_29, h_46, h_58, b_61, b_62, c_63, c_66, b_69, b_70, c_71, c_74]
        rcases zad hp with ⟨h_75, hp⟩ | ⟨h_75, hp⟩
        ·try simp at h_75
         cases hp
         simp [Goal, FnEnd, retR, rsrc, RSrc.val, nodupR, nodup, tupPart, h_1, h_8, h_17, h_29, h_46, h_58, h_75]
        ·try simp at h_75
         try simp [h_1, h_8, h_17, h_29, h_46, h_58, h_75]
         obtain ⟨e_76, h_77, hp⟩ := zaa hp
         cases Option.some.inj (h_68.symm.trans h_77)
         have b_78 := at_lo h_68
         have b_79 := at_hi h_68
         try simp at b_78 b_79
         have c_80 := seg_at' h_68 0 1 (by decide) (ds := [.sc (.int .i64 e_67)]) rfl
         try simp at c_80
         obtain ⟨e_81, h_82, hp⟩ := zaa hp
         cases Option.some.inj (h_60.symm.trans h_82)
         have b_83 := at_lo h_60
         have b_84 := at_hi h_60
         try simp at b_83 b_84
         have c_85 := seg_at' h_60 0 1 (by decide) (ds := [.sc (.int .i64 e_59)]) rfl
         try simp at c_85
         obtain ⟨e_86, h_87, hp⟩ := zaa hp
         have b_88 := at_lo h_87
         have b_89 := at_hi h_87
         try simp at b_88 b_89
         have c_90 := splice_row h_87 0 e_59 [(.s (.int .i64 e_59))] (by simp) rfl
         try simp at c_90
         have l_91 := row_room h_87 0 (m := 1) (by decide)
         try simp at l_91
         cases hp
         simp [Goal, FnEnd, retR, rsrc, RSrc.val, nodupR, nodup, tupPart, h_1, h_8, h_17, h_29, h_46, h_58, h_75, b_78, b_79, c_80, b_83, b_84, c_85, b_88, b_89, c_90, l_91]
       ·try simp at h_58
        try simp [h_1, h_8, h_17, h_29, h_46, h_58]
        rcases zad hp with ⟨h_92, hp⟩ | ⟨h_92, hp⟩
        ·try simp at h_92
         obtain ⟨y_95, h_96, hp⟩ := zaa hp
         have c_97 := C129_eq h_96
         simp at c_97
         cases hp
         simp [Goal, FnEnd, retR, rsrc, RSrc.val, nodupR, nodup, tupPart, h_1, h_8, h_17, h_29, h_46, h_58, h_92, c_97]
        ·try simp at h_92
         cases hp
         simp [Goal, FnEnd, retR, rsrc, RSrc.val, nodupR, nodup, tupPart, h_1, h_8, h_17, h_29, h_46, h_58, h_92]
theorem po86 : PO Tryz.prog 86 C86 := po_of (g := g86) (ctxOK_ofO [(127, C127), (128, C128)] rfl ⟨pc127, pc128, trivial⟩ [(129, C129)] rfl ⟨po129, trivial⟩) rfl fun x y h => w86 h

noncomputable def C87 : List AV → Option AV := specP (X := THeap × Unit) fun x => spec_HasLeak x.1
theorem C87_eq {h_} {y} (h : spec_HasLeak h_ = some y) : C87 [av .shr h_] = some (Res.res y) := zag (X := THeap × Unit) (F := fun x => spec_HasLeak x.1) (x := (h_, ())) h
noncomputable def g87 : Cfg := { P := Tryz.prog, take := [], keep := [], gho := [], ctx := [(80, C80)] }
@[simp] theorem g87_s : g87.P = Tryz.prog ∧ g87.take = [] ∧ g87.gho = [] ∧ g87.ro = [] ∧ g87.away = [] ∧ g87.give = [] ∧ g87.octx = [] ∧ lookN 80 g87.ctx = some C80 := by rw [g87]; exact ⟨rfl, rfl, rfl, rfl, rfl, rfl, rfl, rfl⟩
theorem w87 {h_} {y} (hp : spec_HasLeak h_ = some y) : ∃ m, callo g87 0 87 [av .shr h_] mem0 = some (Res.res y, m) := by
  refine zah (Tryz.f87.body.getD .skip) [.tmp 2] rfl rfl Tryz.func87 (by kernel_rfl) (by kernel_rfl) (by simp [Tryz.ntmps87]) rfl ?_
  unfold spec_HasLeak at hp
  obtain ⟨y_1, h_2, hp⟩ := zaa hp
  have c_3 := C80_eq h_2
  simp at c_3
  cases hp
  simp [Tryz.f87, Goal, FnEnd, c_3]
theorem pc87 : PC Tryz.prog 87 C87 := pc_of (g := g87) (zai [(80, C80)] rfl ⟨pc80, trivial⟩) ⟨Tryz.f87, Tryz.func87, by kernel_rfl, by kernel_rfl⟩ fun x y h => w87 h
end Go.Proofs

