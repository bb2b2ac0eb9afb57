import Derived.Test.YtmmliafoddlgfaaGreatEvA15
set_option linter.unusedSimpArgs false
set_option linter.unusedVariables false
set_option linter.unnecessarySimpa false
set_option maxHeartbeats 4000000
set_option maxRecDepth 100000
namespace Go.Proofs
open Go.Ev
abbrev G135 (g : Cfg) : Prop := Has Tryz.prog g 135 Tryz.f135 [] [] [(136, C136)] []
theorem wI135 {g : Cfg} (G : G135 g) {d : Nat} {mem : Mem} (hT : Tight d mem) {K_1 : Key} {name : ByteArray} {c0 : (List ByteArray)} {mk_1 : Md} (hk_1 : K_1.1 ≤ d) (hb_1 : mem K_1 = some [(.l mk_1 c0.length (encL c0))]) {y} (hp : impl_IsStmt_1 name c0 = some y) : callo g d 135 [av .shr name, .one (.ptr K_1 0)] mem = some (Res.res y, mem) := by
  have gP := G.P; have gt := G.tk; have gr := G.ro; have gg := G.gh
  have c_136 := G.cs (136, C136) (by simp)
  have hT2 : memKill (fun k => decide (d < k.1)) mem = mem := hT
  have nk_1 : ∀ t, (K_1 = (d + 1, t)) = False := fun t => by simp; intro h; rw [h] at hk_1; simp at hk_1; omega
  refine start_in (Tryz.f135.body.getD .skip) [.tmp 3] G Tryz.func135 (by kernel_rfl) (by simp [Tryz.ntmps135]) rfl ?_
  unfold impl_IsStmt_1 at hp
  obtain ⟨y_1, h_2, hp⟩ := zaa hp
  have c_3 := C136_eq h_2
  simp at c_3
  cases hp
  simp [Tryz.f135, Goal, FnEndI, memKill_hi, gP, gt, gr, gg, c_136, hb_1, nk_1, c_3, hT2]

noncomputable def C93 : List AV → Option AV := specP (X := (List ByteArray) × TStmt × Unit) fun x => impl_IsStmt x.1 x.2.1
theorem C93_eq {vars s} {y} (h : impl_IsStmt vars s = some y) : C93 [av .shr vars, av .shr s] = some (Res.res y) := zag (X := (List ByteArray) × TStmt × Unit) (F := fun x => impl_IsStmt x.1 x.2.1) (x := (vars, s, ())) h
noncomputable def g93 : Cfg := { P := Tryz.prog, take := [], keep := [((134, 3), { hd := [1, 5, 15, 16, 17], bx := [], ex := [5], rt := [4] })], gho := [], ctx := [(90, C90), (136, C136), (153, C153)] }
@[simp] theorem g93_s : g93.P = Tryz.prog ∧ g93.take = [] ∧ g93.gho = [] ∧ g93.ro = [] ∧ g93.away = [] ∧ g93.give = [] ∧ g93.octx = [] ∧ lookN 90 g93.ctx = some C90 ∧ lookN 136 g93.ctx = some C136 ∧ lookN 153 g93.ctx = some C153 ∧ lookN 134 g93.ctx = none ∧ lookN 135 g93.ctx = none := by rw [g93]; exact ⟨rfl, rfl, rfl, rfl, rfl, rfl, rfl, rfl, rfl, rfl, rfl, rfl⟩
theorem w93 {vars s} {y} (hp : impl_IsStmt vars s = some y) : ∃ m, callo g93 0 93 [av .shr vars, av .shr s] mem0 = some (Res.res y, m) := by
  have G_134 : G134 g93 := ⟨rfl, by kernel_rfl, rfl, fun t => by simp, noAway (fun t => by simp) (by simp) (fun t => by simp), by simp [lookN], fun i => by simp [lookK], by simp [g93, lookK], by simp⟩
  have G_135 : G135 g93 := ⟨rfl, by kernel_rfl, rfl, fun t => by simp, noAway (fun t => by simp) (by simp) (fun t => by simp), by simp [lookN], fun i => by simp [lookK], by simp [g93, lookK], by simp⟩
  refine zah (Tryz.f93.body.getD .skip) [.tmp 4] rfl rfl Tryz.func93 (by kernel_rfl) (by kernel_rfl) (by simp [Tryz.ntmps93]) rfl ?_
  unfold impl_IsStmt at hp
  obtain ⟨y_1, h_2, hp⟩ := zaa hp
  have c_3 := C90_eq h_2
  simp at c_3
  simp [Tryz.f93, c_3]
  rcases zad hp with ⟨h_4, hp⟩ | ⟨h_4, hp⟩
  ·try simp at h_4
   obtain ⟨y_5, h_6, hp⟩ := zaa hp
   try simp [h_4]
   refine goal_call [av .shr s, .one (.fn 135 [((1, 2), 0)])] (Res.res y_5) (by simp [h_4]) (wI134 G_134 (by repeat (first | exact zam _ | exact hT.up | exact hT | (simp only [true_and]; done) | refine Tight.upd ?_ (by simp) (by simp))) (by simp) (clo1 (p := fun x0 => impl_IsStmt_1 x0 vars) fun d2 mem2 m0 x0 r2 hd2 ha2 hT2 hm0 hr2 => wI135 (mk_1 := .shr) G_135 hT2 (show 1 ≤ d2 from hd2) ((ha2 _ (Nat.le_refl _)).trans (by simp [h_4])) hr2) h_6) ?_
   cases hp
   simp [Goal, FnEnd, h_4]
  ·try simp at h_4
   cases hp
   simp [Goal, FnEnd, h_4]
theorem pc93 : PC Tryz.prog 93 C93 := pc_of (g := g93) (zai [(90, C90), (136, C136), (153, C153)] rfl ⟨pc90, pc136, pc153, trivial⟩) ⟨Tryz.f93, Tryz.func93, by kernel_rfl, by kernel_rfl⟩ fun x y h => w93 h

abbrev G133 (g : Cfg) : Prop := Has Tryz.prog g 133 Tryz.f133 [] [(2, { hd := [0, 1, 7, 8], bx := [], ex := [], rt := [4] })] [] []
theorem wI133 {g : Cfg} (G : G133 g) {d : Nat} {mem : Mem} (hT : Tight d mem)  {s : (List TEdge)} {f_ : (TEdge → Option (Bool))} {m_0 : Md} (hm_0 : LentM m_0) {fk_f_ : Nat} {caps_f_ : List (Key × Nat)} (hl_f_ : ∀ c ∈ caps_f_, c.1.1 ≤ d) (hc_f_ : Clo g d mem fk_f_ caps_f_ fun x : TEdge × Unit => f_ x.1) {y} (hp : slices_IndexFunc_Edge s f_ = some y) : callo g d 133 [av m_0 s, .one (.fn fk_f_ caps_f_)] mem = some (Res.res y, mem) := by
  have gP := G.P; have gt := G.tk; have gr := G.ro; have gg := G.gh
  have k_2 := G.kp (2, { hd := [0, 1, 7, 8], bx := [], ex := [], rt := [4] }) (by simp)
  have hT2 : memKill (fun k => decide (d < k.1)) mem = mem := hT
  refine start_in (Tryz.f133.body.getD .skip) [.tmp 4] G Tryz.func133 (by kernel_rfl) (by simp [Tryz.ntmps133]) rfl ?_
  unfold slices_IndexFunc_Edge at hp
  simp [Tryz.f133, gP, gt, gr, gg, hm_0.copy, hm_0.elem]
  obtain ⟨r_20, h_21, hp⟩ := zaa hp
  obtain ⟨I_3, I_3_⟩ : ∃ I : Int → St → Prop, I = (fun (s_1 : Int) (σ : St) => σ.env 0 = .one (.l m_0 s.length (encL s)) ∧ σ.env 1 = .one (.fn fk_f_ caps_f_) ∧ σ.env 7 = .one (.s (.int .i64 (s.length : Int))) ∧ σ.env 8 = .one (.s (.int .i64 s_1)) ∧ σ.mem = mem) := ⟨_, rfl⟩
  obtain ⟨X_4, X_4_⟩ : ∃ X : ((Int) ⊕ (Unit)) → Out → Prop, X = (fun (r_20 : (Int) ⊕ (Unit)) (out : Out) => Sum.elim (fun r_20 => ∃ σ : St, out = .ret σ ∧ σ.env 4 = .one (.s (.int .i64 r_20)) ∧ σ.mem = mem) (fun r_20 => ∃ σ : St, out = .exit 0 σ ∧ σ.mem = mem) r_20) := ⟨_, rfl⟩
  refine loopP ({ hd := [0, 1, 7, 8], bx := [], ex := [], rt := [4] }) I_3 X_4 h_21 (by exact k_2) ?_ ?_ ?_
  ·rw [I_3_]
   refine ⟨?_, by simp [zab, gP, gt, gr, gg, hm_0.copy, hm_0.elem] <;> first | (intro x x1 x2 hx; have h0 := hl_f_ _ hx; simp at h0; omega) | (intro x hx; have h0 := hl_f_ _ hx; simp at h0; omega), ?_, ?_, ?_⟩ <;> simp [zab, zac, gP, gt, gr, gg, hm_0.copy, hm_0.elem]
  ·intro s_1 σ_5 a_2 hI hp
   rw [I_3_] at hI
   obtain ⟨q_6, q_7, q_8, q_9, q_10⟩ := hI
   try simp [gP, gt, gr, gg, hm_0.copy, hm_0.elem, q_6, q_7, q_8, q_9, q_10]
   rcases zad hp with ⟨h_11, hp⟩ | ⟨h_11, hp⟩
   ·try simp at h_11
    obtain ⟨e_12, h_13, hp⟩ := zaa hp
    have b_14 := at_lo h_13
    have b_15 := at_hi h_13
    try simp at b_14 b_15
    have c_16 := seg_at' h_13 0 5 (by decide) (ds := [.sc (.int .i64 e_12.from_), .sc (.int .i64 e_12.to_), .sc (.int .i64 e_12.stmt.kind), .sc (.string e_12.stmt.a), .sc (.string e_12.stmt.b)]) rfl
    try simp at c_16
    obtain ⟨y_17, h_18, hp⟩ := zaa hp
    try simp [gP, gt, gr, gg, hm_0.copy, hm_0.elem, q_6, q_7, q_8, q_9, q_10, h_11, b_14, b_15, c_16]
    refine goal_call ([av .shr e_12] ++ capsAV caps_f_) (Res.res y_17) (by simp [capsAV, gP, gt, gr, gg, hm_0.copy, hm_0.elem, q_6, q_7, q_8, q_9, q_10, h_11]) (hc_f_ _ _ _ (e_12, ()) _ (Nat.le_succ d) (fun k hk => by first | rfl | rw [q_10]) (by repeat (first | exact zam _ | exact hT.up | exact hT | (simp only [q_6, q_7, q_8, q_9, q_10]; done) | refine Tight.upd ?_ (by simp) (by simp))) ⟨_, _, (.inl rfl), rfl, rfl⟩ h_18) ?_
    try simp [gP, gt, gr, gg, hm_0.copy, hm_0.elem, q_6, q_7, q_8, q_9, q_10, h_11]
    rcases zad hp with ⟨h_19, hp⟩ | ⟨h_19, hp⟩
    ·try simp at h_19
     cases hp
     try simp [gP, gt, gr, gg, hm_0.copy, hm_0.elem, q_6, q_7, q_8, q_9, q_10, h_11, h_19]
     refine zao ?_
     rw [X_4_]
     refine ⟨_, rfl, ?_, ?_⟩ <;> simp [zab, zac, gP, gt, gr, gg, hm_0.copy, hm_0.elem, q_6, q_7, q_8, q_9, q_10, h_11, h_19]
    ·try simp at h_19
     cases hp
     try simp [gP, gt, gr, gg, hm_0.copy, hm_0.elem, q_6, q_7, q_8, q_9, q_10, h_11, h_19]
     refine zak ?_
     rw [I_3_]
     refine ⟨?_, by simp [zab, gP, gt, gr, gg, hm_0.copy, hm_0.elem, q_6, q_7, q_8, q_9, q_10, h_11, h_19] <;> first | (intro x x1 x2 hx; have h0 := hl_f_ _ hx; simp at h0; omega) | (intro x hx; have h0 := hl_f_ _ hx; simp at h0; omega), ?_, ?_, ?_⟩ <;> simp [zab, zac, gP, gt, gr, gg, hm_0.copy, hm_0.elem, q_6, q_7, q_8, q_9, q_10, h_11, h_19]
   ·try simp at h_11
    cases hp
    try simp [gP, gt, gr, gg, hm_0.copy, hm_0.elem, q_6, q_7, q_8, q_9, q_10, h_11]
    refine zan ?_
    rw [X_4_]
    exact ⟨_, rfl, by simp [zac, gP, gt, gr, gg, hm_0.copy, hm_0.elem, q_6, q_7, q_8, q_9, q_10, h_11]⟩
  ·intro out hX
   rw [X_4_] at hX
   rcases r_20 with r_20 | r_20
   ·simp only [Sum.elim_inl, Sum.elim_inr] at hX hp
    obtain ⟨σ_22, rfl, q_23, q_24⟩ := hX
    cases hp
    simp [Goal, FnEndI, memKill_hi, gP, gt, gr, gg, hm_0.copy, hm_0.elem, q_23, q_24, hT2]
   ·simp only [Sum.elim_inl, Sum.elim_inr] at hX hp
    obtain ⟨σ_25, rfl, q_26⟩ := hX
    cases hp
    simp [Goal, FnEndI, memKill_hi, gP, gt, gr, gg, hm_0.copy, hm_0.elem, q_26, hT2]

abbrev G91 (g : Cfg) : Prop := Has Tryz.prog g 91 Tryz.f91 [] [] [] []
theorem wI91 {g : Cfg} (G : G91 g) (G_133 : G133 g) {d : Nat} {mem : Mem} (hT : Tight d mem)  {s : (List TEdge)} {f_ : (TEdge → Option (Bool))} {m_0 : Md} (hm_0 : LentM m_0) {fk_f_ : Nat} {caps_f_ : List (Key × Nat)} (hl_f_ : ∀ c ∈ caps_f_, c.1.1 ≤ d) (hc_f_ : Clo g d mem fk_f_ caps_f_ fun x : TEdge × Unit => f_ x.1) {y} (hp : slices_ContainsFunc_Edge s f_ = some y) : callo g d 91 [av m_0 s, .one (.fn fk_f_ caps_f_)] mem = some (Res.res y, mem) := by
  have gP := G.P; have gt := G.tk; have gr := G.ro; have gg := G.gh
  have i_133 := G_133.no
  have hT2 : memKill (fun k => decide (d < k.1)) mem = mem := hT
  refine start_in (Tryz.f91.body.getD .skip) [.tmp 4] G Tryz.func91 (by kernel_rfl) (by simp [Tryz.ntmps91]) rfl ?_
  unfold slices_ContainsFunc_Edge at hp
  obtain ⟨y_1, h_2, hp⟩ := zaa hp
  simp [Tryz.f91, gP, gt, gr, gg, i_133, hm_0.copy, hm_0.elem]
  refine goal_call [av m_0 s, .one (.fn fk_f_ caps_f_)] (Res.res y_1) (by simp [gP, gt, gr, gg, i_133, hm_0.copy, hm_0.elem]) (wI133 G_133 (by repeat (first | exact zam _ | exact hT.up | exact hT | (simp only [true_and]; done) | refine Tight.upd ?_ (by simp) (by simp))) hm_0 (fun c hc => Nat.le_succ_of_le (hl_f_ c hc)) (hc_f_.mono (Nat.le_succ d) (fun k hk => rfl)) h_2) ?_
  cases hp
  simp [Goal, FnEndI, memKill_hi, gP, gt, gr, gg, i_133, hm_0.copy, hm_0.elem, hT2]

abbrev G92 (g : Cfg) : Prop := Has Tryz.prog g 92 Tryz.f92 [] [] [(56, C56), (93, C93)] []
theorem wI92 {g : Cfg} (G : G92 g) {d : Nat} {mem : Mem} (hT : Tight d mem) {K_1 : Key} {e : TEdge} {c0 : TProgram} {mk_1 : Md} (hk_1 : K_1.1 ≤ d) (hb_1 : mem K_1 = some [(.l mk_1 c0.vars.length (encL c0.vars)), (.s (.int .i64 c0.points)), (.l mk_1 c0.edges.length (encL c0.edges))]) {y} (hp : impl_IsProgram_1 e c0 = some y) : callo g d 92 [av .shr e, .one (.ptr K_1 0)] mem = some (Res.res y, mem) := by
  have gP := G.P; have gt := G.tk; have gr := G.ro; have gg := G.gh
  have c_56 := G.cs (56, C56) (by simp)
  have c_93 := G.cs (93, C93) (by simp)
  have hT2 : memKill (fun k => decide (d < k.1)) mem = mem := hT
  have hm0 : ∀ t, mem (d + 1, t) = none := fun t => hT.none (by simp)
  have nk_1 : ∀ t, (K_1 = (d + 1, t)) = False := fun t => by simp; intro h; rw [h] at hk_1; simp at hk_1; omega
  refine start_in (Tryz.f92.body.getD .skip) [.tmp 3] G Tryz.func92 (by kernel_rfl) (by simp [Tryz.ntmps92]) rfl ?_
  unfold impl_IsProgram_1 at hp
  obtain ⟨y_1, h_2, hp⟩ := zaa hp
  have c_3 := C56_eq h_2
  simp at c_3
  simp [Tryz.f92, gP, gt, gr, gg, hm0, c_56, hb_1, nk_1, c_3]
  rcases zad hp with ⟨h_4, hp⟩ | ⟨h_4, hp⟩
  ·try simp at h_4
   obtain ⟨y_5, h_6, hp⟩ := zaa hp
   have c_7 := C56_eq h_6
   simp at c_7
   try simp [gP, gt, gr, gg, hm0, c_56, hb_1, nk_1, h_4, c_7]
   rcases zad hp with ⟨h_8, hp⟩ | ⟨h_8, hp⟩
   ·try simp at h_8
    obtain ⟨y_9, h_10, hp⟩ := zaa hp
    have c_11 := C93_eq h_10
    simp at c_11
    cases hp
    simp [Goal, FnEndI, memKill_hi, gP, gt, gr, gg, hm0, c_56, c_93, hb_1, nk_1, h_4, h_8, c_11, hT2]
   ·try simp at h_8
    cases hp
    simp [Goal, FnEndI, memKill_hi, gP, gt, gr, gg, hm0, c_56, c_93, hb_1, nk_1, h_4, h_8, hT2]
  ·try simp at h_4
   cases hp
   simp [Goal, FnEndI, memKill_hi, gP, gt, gr, gg, hm0, c_56, c_93, hb_1, nk_1, h_4, hT2]

noncomputable def C53 : List AV → Option AV := specP (X := TProgram × Unit) fun x => impl_IsProgram x.1
theorem C53_eq {p_} {y} (h : impl_IsProgram p_ = some y) : C53 [av .shr p_] = some (Res.res y) := zag (X := TProgram × Unit) (F := fun x => impl_IsProgram x.1) (x := (p_, ())) h
noncomputable def g53 : Cfg := { P := Tryz.prog, take := [], keep := [((133, 2), { hd := [0, 1, 7, 8], bx := [], ex := [], rt := [4] })], gho := [], ctx := [(56, C56), (90, C90), (93, C93)] }
@[simp] theorem g53_s : g53.P = Tryz.prog ∧ g53.take = [] ∧ g53.gho = [] ∧ g53.ro = [] ∧ g53.away = [] ∧ g53.give = [] ∧ g53.octx = [] ∧ lookN 56 g53.ctx = some C56 ∧ lookN 90 g53.ctx = some C90 ∧ lookN 93 g53.ctx = some C93 ∧ lookN 91 g53.ctx = none ∧ lookN 133 g53.ctx = none ∧ lookN 92 g53.ctx = none := by rw [g53]; exact ⟨rfl, rfl, rfl, rfl, rfl, rfl, rfl, rfl, rfl, rfl, rfl, rfl, rfl⟩
theorem w53 {p_} {y} (hp : impl_IsProgram p_ = some y) : ∃ m, callo g53 0 53 [av .shr p_] mem0 = some (Res.res y, m) := by
  have G_91 : G91 g53 := ⟨rfl, by kernel_rfl, rfl, fun t => by simp, noAway (fun t => by simp) (by simp) (fun t => by simp), by simp [lookN], fun i => by simp [lookK], by simp [g53, lookK], by simp⟩
  have G_133 : G133 g53 := ⟨rfl, by kernel_rfl, rfl, fun t => by simp, noAway (fun t => by simp) (by simp) (fun t => by simp), by simp [lookN], fun i => by simp [lookK], by simp [g53, lookK], by simp⟩
  have G_92 : G92 g53 := ⟨rfl, by kernel_rfl, rfl, fun t => by simp, noAway (fun t => by simp) (by simp) (fun t => by simp), by simp [lookN], fun i => by simp [lookK], by simp [g53, lookK], by simp⟩
  refine zah (Tryz.f53.body.getD .skip) [.tmp 2] rfl rfl Tryz.func53 (by kernel_rfl) (by kernel_rfl) (by simp [Tryz.ntmps53]) rfl ?_
  unfold impl_IsProgram at hp
  obtain ⟨y_1, h_2, hp⟩ := zaa hp
  have c_3 := C90_eq h_2
  simp at c_3
  simp [Tryz.f53, c_3]
  rcases zad hp with ⟨h_4, hp⟩ | ⟨h_4, hp⟩
  ·try simp at h_4
   obtain ⟨y_5, h_6, hp⟩ := zaa hp
   have c_7 := C56_eq h_6
   simp at c_7
   try simp [h_4, c_7]
   rcases zad hp with ⟨h_8, hp⟩ | ⟨h_8, hp⟩
   ·try simp at h_8
    try simp [h_4, h_8]
    rcases zad hp with ⟨h_9, hp⟩ | ⟨h_9, hp⟩
    ·try simp at h_9
     cases hp
     simp [Goal, FnEnd, h_4, h_8, h_9]
    ·try simp at h_9
     obtain ⟨y_10, h_11, hp⟩ := zaa hp
     try simp [h_4, h_8, h_9]
     refine goal_call [av .shr p_.edges, .one (.fn 92 [((1, 1), 0)])] (Res.res y_10) (by simp [h_4, h_8, h_9]) (wI91 G_91 G_133 (by repeat (first | exact zam _ | exact hT.up | exact hT | (simp only [true_and]; done) | refine Tight.upd ?_ (by simp) (by simp))) (.inl rfl) (by simp) (clo1 (p := fun x0 => impl_IsProgram_1 x0 p_) fun d2 mem2 m0 x0 r2 hd2 ha2 hT2 hm0 hr2 => wI92 (mk_1 := .shr) G_92 hT2 (show 1 ≤ d2 from hd2) ((ha2 _ (Nat.le_refl _)).trans (by simp [h_4, h_8, h_9])) hr2) h_11) ?_
     cases hp
     simp [Goal, FnEnd, h_4, h_8, h_9]
   ·try simp at h_8
    cases hp
    simp [Goal, FnEnd, h_4, h_8]
  ·try simp at h_4
   cases hp
   simp [Goal, FnEnd, h_4]
theorem pc53 : PC Tryz.prog 53 C53 := pc_of (g := g53) (zai [(56, C56), (90, C90), (93, C93)] rfl ⟨pc56, pc90, pc93, trivial⟩) ⟨Tryz.f53, Tryz.func53, by kernel_rfl, by kernel_rfl⟩ fun x y h => w53 h

noncomputable def C140 : List AV → Option AV := specP (X := THeap × Int × Unit) fun x => impl_Heap_isCell x.1 x.2.1
theorem C140_eq {h_ n_} {y} (h : impl_Heap_isCell h_ n_ = some y) : C140 [av .shr h_, av .shr n_] = some (Res.res y) := zag (X := THeap × Int × Unit) (F := fun x => impl_Heap_isCell x.1 x.2.1) (x := (h_, n_, ())) h
noncomputable def g140 : Cfg := { P := Tryz.prog, take := [], keep := [], gho := [], ctx := [(56, C56)] }
@[simp] theorem g140_s : g140.P = Tryz.prog ∧ g140.take = [] ∧ g140.gho = [] ∧ g140.ro = [] ∧ g140.away = [] ∧ g140.give = [] ∧ g140.octx = [] ∧ lookN 56 g140.ctx = some C56 := by rw [g140]; exact ⟨rfl, rfl, rfl, rfl, rfl, rfl, rfl, rfl⟩
theorem w140 {h_ n_} {y} (hp : impl_Heap_isCell h_ n_ = some y) : ∃ m, callo g140 0 140 [av .shr h_, av .shr n_] mem0 = some (Res.res y, m) := by
  refine zah (Tryz.f140.body.getD .skip) [.tmp 4] rfl rfl Tryz.func140 (by kernel_rfl) (by kernel_rfl) (by simp [Tryz.ntmps140]) rfl ?_
  unfold impl_Heap_isCell at hp
  obtain ⟨y_1, h_2, hp⟩ := zaa hp
  have c_3 := C56_eq h_2
  simp at c_3
  cases hp
  simp [Tryz.f140, Goal, FnEnd, c_3]
theorem pc140 : PC Tryz.prog 140 C140 := pc_of (g := g140) (zai [(56, C56)] rfl ⟨pc56, trivial⟩) ⟨Tryz.f140, Tryz.func140, by kernel_rfl, by kernel_rfl⟩ fun x y h => w140 h

abbrev G154 (g : Cfg) : Prop := Has Tryz.prog g 154 Tryz.f154 [] [(2, { hd := [0, 1, 7, 8], bx := [], ex := [], rt := [4] })] [] []
theorem wI154 {g : Cfg} (G : G154 g) {d : Nat} {mem : Mem} (hT : Tight d mem)  {s : (List Int)} {f_ : (Int → Option (Bool))} {m_0 : Md} (hm_0 : LentM m_0) {fk_f_ : Nat} {caps_f_ : List (Key × Nat)} (hl_f_ : ∀ c ∈ caps_f_, c.1.1 ≤ d) (hc_f_ : Clo g d mem fk_f_ caps_f_ fun x : Int × Unit => f_ x.1) {y} (hp : slices_IndexFunc_int s f_ = some y) : callo g d 154 [av m_0 s, .one (.fn fk_f_ caps_f_)] mem = some (Res.res y, mem) := by
  have gP := G.P; have gt := G.tk; have gr := G.ro; have gg := G.gh
  have k_2 := G.kp (2, { hd := [0, 1, 7, 8], bx := [], ex := [], rt := [4] }) (by simp)
  have hT2 : memKill (fun k => decide (d < k.1)) mem = mem := hT
  refine start_in (Tryz.f154.body.getD .skip) [.tmp 4] G Tryz.func154 (by kernel_rfl) (by simp [Tryz.ntmps154]) rfl ?_
  unfold slices_IndexFunc_int at hp
  simp [Tryz.f154, gP, gt, gr, gg, hm_0.copy, hm_0.elem]
  obtain ⟨r_20, h_21, hp⟩ := zaa hp
  obtain ⟨I_3, I_3_⟩ : ∃ I : Int → St → Prop, I = (fun (s_1 : Int) (σ : St) => σ.env 0 = .one (.l m_0 s.length (encL s)) ∧ σ.env 1 = .one (.fn fk_f_ caps_f_) ∧ σ.env 7 = .one (.s (.int .i64 (s.length : Int))) ∧ σ.env 8 = .one (.s (.int .i64 s_1)) ∧ σ.mem = mem) := ⟨_, rfl⟩
  obtain ⟨X_4, X_4_⟩ : ∃ X : ((Int) ⊕ (Unit)) → Out → Prop, X = (fun (r_20 : (Int) ⊕ (Unit)) (out : Out) => Sum.elim (fun r_20 => ∃ σ : St, out = .ret σ ∧ σ.env 4 = .one (.s (.int .i64 r_20)) ∧ σ.mem = mem) (fun r_20 => ∃ σ : St, out = .exit 0 σ ∧ σ.mem = mem) r_20) := ⟨_, rfl⟩
  refine loopP ({ hd := [0, 1, 7, 8], bx := [], ex := [], rt := [4] }) I_3 X_4 h_21 (by exact k_2) ?_ ?_ ?_
  ·rw [I_3_]
   refine ⟨?_, by simp [zab, gP, gt, gr, gg, hm_0.copy, hm_0.elem] <;> first | (intro x x1 x2 hx; have h0 := hl_f_ _ hx; simp at h0; omega) | (intro x hx; have h0 := hl_f_ _ hx; simp at h0; omega), ?_, ?_, ?_⟩ <;> simp [zab, zac, gP, gt, gr, gg, hm_0.copy, hm_0.elem]
  ·intro s_1 σ_5 a_2 hI hp
   rw [I_3_] at hI
   obtain ⟨q_6, q_7, q_8, q_9, q_10⟩ := hI
   try simp [gP, gt, gr, gg, hm_0.copy, hm_0.elem, q_6, q_7, q_8, q_9, q_10]
   rcases zad hp with ⟨h_11, hp⟩ | ⟨h_11, hp⟩
   ·try simp at h_11
    obtain ⟨e_12, h_13, hp⟩ := zaa hp
    have b_14 := at_lo h_13
    have b_15 := at_hi h_13
    try simp at b_14 b_15
    have c_16 := seg_at' h_13 0 1 (by decide) (ds := [.sc (.int .i64 e_12)]) rfl
    try simp at c_16
    obtain ⟨y_17, h_18, hp⟩ := zaa hp
    try simp [gP, gt, gr, gg, hm_0.copy, hm_0.elem, q_6, q_7, q_8, q_9, q_10, h_11, b_14, b_15, c_16]
    refine goal_call ([av .shr e_12] ++ capsAV caps_f_) (Res.res y_17) (by simp [capsAV, gP, gt, gr, gg, hm_0.copy, hm_0.elem, q_6, q_7, q_8, q_9, q_10, h_11]) (hc_f_ _ _ _ (e_12, ()) _ (Nat.le_succ d) (fun k hk => by first | rfl | rw [q_10]) (by repeat (first | exact zam _ | exact hT.up | exact hT | (simp only [q_6, q_7, q_8, q_9, q_10]; done) | refine Tight.upd ?_ (by simp) (by simp))) ⟨_, _, (.inl rfl), rfl, rfl⟩ h_18) ?_
    try simp [gP, gt, gr, gg, hm_0.copy, hm_0.elem, q_6, q_7, q_8, q_9, q_10, h_11]
    rcases zad hp with ⟨h_19, hp⟩ | ⟨h_19, hp⟩
    ·try simp at h_19
     cases hp
     try simp [gP, gt, gr, gg, hm_0.copy, hm_0.elem, q_6, q_7, q_8, q_9, q_10, h_11, h_19]
     refine zao ?_
     rw [X_4_]
     refine ⟨_, rfl, ?_, ?_⟩ <;> simp [zab, zac, gP, gt, gr, gg, hm_0.copy, hm_0.elem, q_6, q_7, q_8, q_9, q_10, h_11, h_19]
    ·try simp at h_19
     cases hp
     try simp [gP, gt, gr, gg, hm_0.copy, hm_0.elem, q_6, q_7, q_8, q_9, q_10, h_11, h_19]
     refine zak ?_
     rw [I_3_]
     refine ⟨?_, by simp [zab, gP, gt, gr, gg, hm_0.copy, hm_0.elem, q_6, q_7, q_8, q_9, q_10, h_11, h_19] <;> first | (intro x x1 x2 hx; have h0 := hl_f_ _ hx; simp at h0; omega) | (intro x hx; have h0 := hl_f_ _ hx; simp at h0; omega), ?_, ?_, ?_⟩ <;> simp [zab, zac, gP, gt, gr, gg, hm_0.copy, hm_0.elem, q_6, q_7, q_8, q_9, q_10, h_11, h_19]
   ·try simp at h_11
    cases hp
    try simp [gP, gt, gr, gg, hm_0.copy, hm_0.elem, q_6, q_7, q_8, q_9, q_10, h_11]
    refine zan ?_
    rw [X_4_]
    exact ⟨_, rfl, by simp [zac, gP, gt, gr, gg, hm_0.copy, hm_0.elem, q_6, q_7, q_8, q_9, q_10, h_11]⟩
  ·intro out hX
   rw [X_4_] at hX
   rcases r_20 with r_20 | r_20
   ·simp only [Sum.elim_inl, Sum.elim_inr] at hX hp
    obtain ⟨σ_22, rfl, q_23, q_24⟩ := hX
    cases hp
    simp [Goal, FnEndI, memKill_hi, gP, gt, gr, gg, hm_0.copy, hm_0.elem, q_23, q_24, hT2]
   ·simp only [Sum.elim_inl, Sum.elim_inr] at hX hp
    obtain ⟨σ_25, rfl, q_26⟩ := hX
    cases hp
    simp [Goal, FnEndI, memKill_hi, gP, gt, gr, gg, hm_0.copy, hm_0.elem, q_26, hT2]

abbrev G137 (g : Cfg) : Prop := Has Tryz.prog g 137 Tryz.f137 [] [] [] []
theorem wI137 {g : Cfg} (G : G137 g) (G_154 : G154 g) {d : Nat} {mem : Mem} (hT : Tight d mem)  {s : (List Int)} {f_ : (Int → Option (Bool))} {m_0 : Md} (hm_0 : LentM m_0) {fk_f_ : Nat} {caps_f_ : List (Key × Nat)} (hl_f_ : ∀ c ∈ caps_f_, c.1.1 ≤ d) (hc_f_ : Clo g d mem fk_f_ caps_f_ fun x : Int × Unit => f_ x.1) {y} (hp : slices_ContainsFunc_int s f_ = some y) : callo g d 137 [av m_0 s, .one (.fn fk_f_ caps_f_)] mem = some (Res.res y, mem) := by
  have gP := G.P; have gt := G.tk; have gr := G.ro; have gg := G.gh
  have i_154 := G_154.no
  have hT2 : memKill (fun k => decide (d < k.1)) mem = mem := hT
  refine start_in (Tryz.f137.body.getD .skip) [.tmp 4] G Tryz.func137 (by kernel_rfl) (by simp [Tryz.ntmps137]) rfl ?_
  unfold slices_ContainsFunc_int at hp
  obtain ⟨y_1, h_2, hp⟩ := zaa hp
  simp [Tryz.f137, gP, gt, gr, gg, i_154, hm_0.copy, hm_0.elem]
  refine goal_call [av m_0 s, .one (.fn fk_f_ caps_f_)] (Res.res y_1) (by simp [gP, gt, gr, gg, i_154, hm_0.copy, hm_0.elem]) (wI154 G_154 (by repeat (first | exact zam _ | exact hT.up | exact hT | (simp only [true_and]; done) | refine Tight.upd ?_ (by simp) (by simp))) hm_0 (fun c hc => Nat.le_succ_of_le (hl_f_ c hc)) (hc_f_.mono (Nat.le_succ d) (fun k hk => rfl)) h_2) ?_
  cases hp
  simp [Goal, FnEndI, memKill_hi, gP, gt, gr, gg, i_154, hm_0.copy, hm_0.elem, hT2]

abbrev G139 (g : Cfg) : Prop := Has Tryz.prog g 139 Tryz.f139 [] [] [(140, C140)] []
theorem wI139 {g : Cfg} (G : G139 g) {d : Nat} {mem : Mem} (hT : Tight d mem) {K_1 : Key} {n_ : Int} {c0 : THeap} {mk_1 : Md} (hk_1 : K_1.1 ≤ d) (hb_1 : mem K_1 = some [(.l mk_1 c0.vars.length (encL c0.vars)), (.l mk_1 c0.next.length (encL c0.next))]) {y} (hp : impl_Heap_areCells_1 n_ c0 = some y) : callo g d 139 [av .shr n_, .one (.ptr K_1 0)] mem = some (Res.res y, mem) := by
  have gP := G.P; have gt := G.tk; have gr := G.ro; have gg := G.gh
  have c_140 := G.cs (140, C140) (by simp)
  have hT2 : memKill (fun k => decide (d < k.1)) mem = mem := hT
  have nk_1 : ∀ t, (K_1 = (d + 1, t)) = False := fun t => by simp; intro h; rw [h] at hk_1; simp at hk_1; omega
  refine start_in (Tryz.f139.body.getD .skip) [.tmp 3] G Tryz.func139 (by kernel_rfl) (by simp [Tryz.ntmps139]) rfl ?_
  unfold impl_Heap_areCells_1 at hp
  simp [Tryz.f139, gP, gt, gr, gg, hb_1, nk_1]
  rcases zad hp with ⟨h_1, hp⟩ | ⟨h_1, hp⟩
  ·try simp at h_1
   obtain ⟨y_2, h_3, hp⟩ := zaa hp
   have c_4 := C140_eq h_3
   simp at c_4
   cases hp
   simp [Goal, FnEndI, memKill_hi, gP, gt, gr, gg, c_140, hb_1, nk_1, h_1, c_4, hT2]
  ·try simp at h_1
   cases hp
   simp [Goal, FnEndI, memKill_hi, gP, gt, gr, gg, c_140, hb_1, nk_1, h_1, hT2]

noncomputable def C94 : List AV → Option AV := specP (X := THeap × Unit) fun x => impl_Heap_areCells x.1
theorem C94_eq {h_} {y} (h : impl_Heap_areCells h_ = some y) : C94 [av .shr h_] = some (Res.res y) := zag (X := THeap × Unit) (F := fun x => impl_Heap_areCells x.1) (x := (h_, ())) h
noncomputable def g94 : Cfg := { P := Tryz.prog, take := [], keep := [((154, 2), { hd := [0, 1, 7, 8], bx := [], ex := [], rt := [4] })], gho := [], ctx := [(138, C138), (140, C140)] }
@[simp] theorem g94_s : g94.P = Tryz.prog ∧ g94.take = [] ∧ g94.gho = [] ∧ g94.ro = [] ∧ g94.away = [] ∧ g94.give = [] ∧ g94.octx = [] ∧ lookN 138 g94.ctx = some C138 ∧ lookN 140 g94.ctx = some C140 ∧ lookN 137 g94.ctx = none ∧ lookN 154 g94.ctx = none ∧ lookN 139 g94.ctx = none := by rw [g94]; exact ⟨rfl, rfl, rfl, rfl, rfl, rfl, rfl, rfl, rfl, rfl, rfl, rfl⟩
theorem w94 {h_} {y} (hp : impl_Heap_areCells h_ = some y) : ∃ m, callo g94 0 94 [av .shr h_] mem0 = some (Res.res y, m) := by
  have G_137 : G137 g94 := ⟨rfl, by kernel_rfl, rfl, fun t => by simp, noAway (fun t => by simp) (by simp) (fun t => by simp), by simp [lookN], fun i => by simp [lookK], by simp [g94, lookK], by simp⟩
  have G_154 : G154 g94 := ⟨rfl, by kernel_rfl, rfl, fun t => by simp, noAway (fun t => by simp) (by simp) (fun t => by simp), by simp [lookN], fun i => by simp [lookK], by simp [g94, lookK], by simp⟩
  have G_139 : G139 g94 := ⟨rfl, by kernel_rfl, rfl, fun t => by simp, noAway (fun t => by simp) (by simp) (fun t => by simp), by simp [lookN], fun i => by simp [lookK], by simp [g94, lookK], by simp⟩
  refine zah (Tryz.f94.body.getD .skip) [.tmp 2] rfl rfl Tryz.func94 (by kernel_rfl) (by kernel_rfl) (by simp [Tryz.ntmps94]) rfl ?_
  unfold impl_Heap_areCells at hp
  obtain ⟨y_1, h_2, hp⟩ := zaa hp
  have c_3 := C138_eq h_2
  simp at c_3
  obtain ⟨y_4, h_5, hp⟩ := zaa hp
  simp [Tryz.f94, c_3]
  refine goal_call [av .bor y_1, .one (.fn 139 [((1, 1), 0)])] (Res.res y_4) (by simp) (wI137 G_137 G_154 (by repeat (first | exact zam _ | exact hT.up | exact hT | (simp only [true_and]; done) | refine Tight.upd ?_ (by simp) (by simp))) (.inr rfl) (by simp) (clo1 (p := fun x0 => impl_Heap_areCells_1 x0 h_) fun d2 mem2 m0 x0 r2 hd2 ha2 hT2 hm0 hr2 => wI139 (mk_1 := .shr) G_139 hT2 (show 1 ≤ d2 from hd2) ((ha2 _ (Nat.le_refl _)).trans (by simp [c_3])) hr2) h_5) ?_
  cases hp
  simp [Goal, FnEnd]
theorem pc94 : PC Tryz.prog 94 C94 := pc_of (g := g94) (zai [(138, C138), (140, C140)] rfl ⟨pc138, pc140, trivial⟩) ⟨Tryz.f94, Tryz.func94, by kernel_rfl, by kernel_rfl⟩ fun x y h => w94 h

noncomputable def C142 : List AV → Option AV := specP (X := (List Int) × Int × Unit) fun x => slices_Index_int x.1 x.2.1
theorem C142_eq {s v} {y} (h : slices_Index_int s v = some y) : C142 [av .shr s, av .shr v] = some (Res.res y) := zag (X := (List Int) × Int × Unit) (F := fun x => slices_Index_int x.1 x.2.1) (x := (s, v, ())) h
noncomputable def g142 : Cfg := { P := Tryz.prog, take := [], keep := [((142, 2), { hd := [0, 1, 7, 8], bx := [], ex := [], rt := [4] })], gho := [], ctx := [] }
@[simp] theorem g142_s : g142.P = Tryz.prog ∧ g142.take = [] ∧ g142.gho = [] ∧ g142.ro = [] ∧ g142.away = [] ∧ g142.give = [] ∧ g142.octx = [] := by rw [g142]; exact ⟨rfl, rfl, rfl, rfl, rfl, rfl, rfl⟩
theorem w142 {s v} {y} (hp : slices_Index_int s v = some y) : ∃ m, callo g142 0 142 [av .shr s, av .shr v] mem0 = some (Res.res y, m) := by
  refine zah (Tryz.f142.body.getD .skip) [.tmp 4] rfl rfl Tryz.func142 (by kernel_rfl) (by kernel_rfl) (by simp [Tryz.ntmps142]) rfl ?_
  unfold slices_Index_int at hp
  simp [Tryz.f142]
  obtain ⟨r_18, h_19, hp⟩ := zaa hp
  obtain ⟨I_3, I_3_⟩ : ∃ I : Int → St → Prop, I = (fun (s_1 : Int) (σ : St) => σ.env 0 = .one (.l .shr s.length (encL s)) ∧ σ.env 1 = .one (.s (.int .i64 v)) ∧ σ.env 7 = .one (.s (.int .i64 (s.length : Int))) ∧ σ.env 8 = .one (.s (.int .i64 s_1)) ∧ σ.mem = mem0) := ⟨_, rfl⟩
  obtain ⟨X_4, X_4_⟩ : ∃ X : ((Int) ⊕ (Unit)) → Out → Prop, X = (fun (r_18 : (Int) ⊕ (Unit)) (out : Out) => Sum.elim (fun r_18 => ∃ σ : St, out = .ret σ ∧ σ.env 4 = .one (.s (.int .i64 r_18)) ∧ σ.mem = mem0) (fun r_18 => ∃ σ : St, out = .exit 0 σ ∧ σ.mem = mem0) r_18) := ⟨_, rfl⟩
  refine loopP ({ hd := [0, 1, 7, 8], bx := [], ex := [], rt := [4] }) I_3 X_4 h_19 (by exact rfl) ?_ ?_ ?_
  ·rw [I_3_]
   refine ⟨?_, ?_, ?_, ?_, ?_⟩ <;> simp [zab, zac]
  ·intro s_1 σ_5 a_2 hI hp
   rw [I_3_] at hI
   obtain ⟨q_6, q_7, q_8, q_9, q_10⟩ := hI
   try simp [q_6, q_7, q_8, q_9, q_10]
   rcases zad hp with ⟨h_11, hp⟩ | ⟨h_11, hp⟩
   ·try simp at h_11
    obtain ⟨e_12, h_13, hp⟩ := zaa hp
    have b_14 := at_lo h_13
    have b_15 := at_hi h_13
    try simp at b_14 b_15
    have c_16 := seg_at' h_13 0 1 (by decide) (ds := [.sc (.int .i64 e_12)]) rfl
    try simp at c_16
    try simp [q_6, q_7, q_8, q_9, q_10, h_11, b_14, b_15, c_16]
    rcases zad hp with ⟨h_17, hp⟩ | ⟨h_17, hp⟩
    ·try simp at h_17
     cases hp
     try simp [q_6, q_7, q_8, q_9, q_10, h_11, h_17]
     refine zao ?_
     rw [X_4_]
     refine ⟨_, rfl, ?_, ?_⟩ <;> simp [zab, zac, q_6, q_7, q_8, q_9, q_10, h_11, h_17]
    ·try simp at h_17
     cases hp
     try simp [q_6, q_7, q_8, q_9, q_10, h_11, h_17]
     refine zak ?_
     rw [I_3_]
     refine ⟨?_, ?_, ?_, ?_, ?_⟩ <;> simp [zab, zac, q_6, q_7, q_8, q_9, q_10, h_11, h_17]
   ·try simp at h_11
    cases hp
    try simp [q_6, q_7, q_8, q_9, q_10, h_11]
    refine zan ?_
    rw [X_4_]
    exact ⟨_, rfl, by simp [zac, q_6, q_7, q_8, q_9, q_10, h_11]⟩
  ·intro out hX
   rw [X_4_] at hX
   rcases r_18 with r_18 | r_18
   ·simp only [Sum.elim_inl, Sum.elim_inr] at hX hp
    obtain ⟨σ_20, rfl, q_21, q_22⟩ := hX
    cases hp
    simp [Goal, FnEnd, q_21, q_22]
   ·simp only [Sum.elim_inl, Sum.elim_inr] at hX hp
    obtain ⟨σ_23, rfl, q_24⟩ := hX
    cases hp
    simp [Goal, FnEnd, q_24]
theorem pc142 : PC Tryz.prog 142 C142 := pc_of (g := g142) (zai [] rfl trivial) ⟨Tryz.f142, Tryz.func142, by kernel_rfl, by kernel_rfl⟩ fun x y h => w142 h

noncomputable def C104 : List AV → Option AV := specP (X := (List Int) × Int × Unit) fun x => zaf x.1 x.2.1
theorem C104_eq {s v} {y} (h : zaf s v = some y) : C104 [av .shr s, av .shr v] = some (Res.res y) := zag (X := (List Int) × Int × Unit) (F := fun x => zaf x.1 x.2.1) (x := (s, v, ())) h
noncomputable def g104 : Cfg := { P := Tryz.prog, take := [], keep := [], gho := [], ctx := [(142, C142)] }
@[simp] theorem g104_s : g104.P = Tryz.prog ∧ g104.take = [] ∧ g104.gho = [] ∧ g104.ro = [] ∧ g104.away = [] ∧ g104.give = [] ∧ g104.octx = [] ∧ lookN 142 g104.ctx = some C142 := by rw [g104]; exact ⟨rfl, rfl, rfl, rfl, rfl, rfl, rfl, rfl⟩
theorem w104 {s v} {y} (hp : zaf s v = some y) : ∃ m, callo g104 0 104 [av .shr s, av .shr v] mem0 = some (Res.res y, m) := by
  refine zah (Tryz.f104.body.getD .skip) [.tmp 4] rfl rfl Tryz.func104 (by kernel_rfl) (by kernel_rfl) (by simp [Tryz.ntmps104]) rfl ?_
  unfold zaf at hp
  obtain ⟨y_1, h_2, hp⟩ := zaa hp
  have c_3 := C142_eq h_2
  simp at c_3
  cases hp
  simp [Tryz.f104, Goal, FnEnd, c_3]
theorem pc104 : PC Tryz.prog 104 C104 := pc_of (g := g104) (zai [(142, C142)] rfl ⟨pc142, trivial⟩) ⟨Tryz.f104, Tryz.func104, by kernel_rfl, by kernel_rfl⟩ fun x y h => w104 h

noncomputable def C105 : List AV → Option AV := specP (X := THeap × Int × Unit) fun x => impl_Followed x.1 x.2.1
theorem C105_eq {h_ cell} {y} (h : impl_Followed h_ cell = some y) : C105 [av .shr h_, av .shr cell] = some (Res.res y) := zag (X := THeap × Int × Unit) (F := fun x => impl_Followed x.1 x.2.1) (x := (h_, cell, ())) h
noncomputable def g105 : Cfg := { P := Tryz.prog, take := [(105, 27), (105, 31)], keep := [((105, 3), { hd := [1, 2, 5, 6], bx := [], ex := [5], rt := [4] })], gho := [], ctx := [(104, C104), (140, C140)] }
@[simp] theorem g105_s : g105.P = Tryz.prog ∧ g105.take = [(105, 27), (105, 31)] ∧ g105.gho = [] ∧ g105.ro = [] ∧ g105.away = [] ∧ g105.give = [] ∧ g105.octx = [] ∧ lookN 104 g105.ctx = some C104 ∧ lookN 140 g105.ctx = some C140 := by rw [g105]; exact ⟨rfl, rfl, rfl, rfl, rfl, rfl, rfl, rfl, rfl⟩
theorem w105 {h_ cell} {y} (hp : impl_Followed h_ cell = some y) : ∃ m, callo g105 0 105 [av .shr h_, av .shr cell] mem0 = some (Res.res y, m) := by
  refine zah (Tryz.f105.body.getD .skip) [.tmp 4] rfl rfl Tryz.func105 (by kernel_rfl) (by kernel_rfl) (by simp [Tryz.ntmps105]) rfl ?_
  unfold impl_Followed at hp
  simp [Tryz.f105]
  obtain ⟨r_44, h_45, hp⟩ := zaa hp
  obtain ⟨I_3, I_3_⟩ : ∃ I : (List Int) × Int → St → Prop, I = (fun (s_1 : (List Int) × Int) (σ : St) => σ.env 1 = .one (.s (.int .i64 cell)) ∧ σ.env 2 = .one (.ptr (1, 2) 0) ∧ σ.env 5 = .one (.l .own s_1.1.length (encL s_1.1)) ∧ σ.env 6 = .one (.s (.int .i64 s_1.2)) ∧ σ.mem (1, 2) = some [(.l .shr h_.vars.length (encL h_.vars)), (.l .shr h_.next.length (encL h_.next))] ∧ NoBox [(1, 2)] σ.mem) := ⟨_, rfl⟩
  obtain ⟨X_4, X_4_⟩ : ∃ X : (((List Int)) ⊕ (Unit)) → Out → Prop, X = (fun (r_44 : ((List Int)) ⊕ (Unit)) (out : Out) => Sum.elim (fun r_44 => ∃ σ : St, out = .exit 0 σ ∧ σ.env 5 = .one (.l .own r_44.length (encL r_44)) ∧ σ.mem (1, 2) = some [(.l .shr h_.vars.length (encL h_.vars)), (.l .shr h_.next.length (encL h_.next))] ∧ NoBox [(1, 2)] σ.mem) (fun r_44 => ∃ σ : St, out = .ret σ ∧ σ.env 4 = .one (.l .own 0 []) ∧ σ.mem (1, 2) = some [(.l .shr h_.vars.length (encL h_.vars)), (.l .shr h_.next.length (encL h_.next))] ∧ NoBox [(1, 2)] σ.mem) r_44) := ⟨_, rfl⟩
  refine loopP ({ hd := [1, 2, 5, 6], bx := [], ex := [5], rt := [4] }) I_3 X_4 h_45 (by exact rfl) ?_ ?_ ?_
  ·rw [I_3_]
   refine ⟨?_, ?_, ?_, ?_, ?_, NoBox.restrict (by intro k hk hb; simp at hk hb; simp [hk, hb])⟩ <;> simp [zab, zac]
  ·intro s_1 σ_5 a_2 hI hp
   rw [I_3_] at hI
   obtain ⟨q_6, q_7, q_8, q_9, q_10, hn_11⟩ := hI
   try simp [q_6, q_7, q_8, q_9, q_10]
   rcases zad hp with ⟨h_12, hp⟩ | ⟨h_12, hp⟩
   ·try simp at h_12
    obtain ⟨y_13, h_14, hp⟩ := zaa hp
    have c_15 := C140_eq h_14
    simp at c_15
    try simp [q_6, q_7, q_8, q_9, q_10, h_12, c_15]
    rcases zad hp with ⟨h_16, hp⟩ | ⟨h_16, hp⟩
    ·try simp at h_16
     obtain ⟨y_17, h_18, hp⟩ := zaa hp
     have c_19 := C104_eq h_18
     simp at c_19
     try simp [q_6, q_7, q_8, q_9, q_10, h_12, h_16, c_19]
     rcases zad hp with ⟨h_20, hp⟩ | ⟨h_20, hp⟩
     ·try simp at h_20
      cases hp
      try simp [q_6, q_7, q_8, q_9, q_10, h_12, h_16, h_20]
      refine zan ?_
      rw [X_4_]
      refine ⟨_, rfl, ?_, ?_, NoBox.restrict (by intro k hk hb; simp at hk hb; simp [hk, hb, q_6, q_7, q_8, q_9, q_10, h_12, h_16, h_20, hn_11 k (by simp [hk, hb])])⟩ <;> simp [zab, zac, q_6, q_7, q_8, q_9, q_10, h_12, h_16, h_20]
     ·try simp at h_20
      obtain ⟨_, h_21, hp⟩ := zaa hp
      have b_22 := room_ok h_21
      try simp at b_22
      obtain ⟨e_23, h_24, hp⟩ := zaa hp
      have b_25 := at_lo h_24
      have b_26 := at_hi h_24
      try simp at b_25 b_26
      have c_27 := seg_at' h_24 0 1 (by decide) (ds := [.sc (.int .i64 e_23)]) rfl
      try simp at c_27
      cases hp
      try simp [q_6, q_7, q_8, q_9, q_10, h_12, h_16, h_20, b_22, b_25, b_26, c_27]
      refine zak ?_
      rw [I_3_]
      refine ⟨?_, ?_, ?_, ?_, ?_, NoBox.restrict (by intro k hk hb; simp at hk hb; simp [hk, hb, q_6, q_7, q_8, q_9, q_10, h_12, h_16, h_20, b_22, b_25, b_26, c_27, hn_11 k (by simp [hk, hb])])⟩ <;> simp [zab, zac, q_6, q_7, q_8, q_9, q_10, h_12, h_16, h_20, b_22, b_25, b_26, c_27]
    ·try simp at h_16
     cases hp
     try simp [q_6, q_7, q_8, q_9, q_10, h_12, h_16]
     refine zao ?_
     rw [X_4_]
     refine ⟨_, rfl, ?_, ?_, NoBox.restrict (by intro k hk hb; simp at hk hb; simp [hk, hb, q_6, q_7, q_8, q_9, q_10, h_12, h_16, hn_11 k (by simp [hk, hb])])⟩ <;> simp [zab, zac, q_6, q_7, q_8, q_9, q_10, h_12, h_16]
   ·try simp at h_12
    try simp [q_6, q_7, q_8, q_9, q_10, h_12]
    rcases zad hp with ⟨h_28, hp⟩ | ⟨h_28, hp⟩
    ·try simp at h_28
     obtain ⟨y_29, h_30, hp⟩ := zaa hp
     have c_31 := C140_eq h_30
     simp at c_31
     try simp [q_6, q_7, q_8, q_9, q_10, h_12, h_28, c_31]
     rcases zad hp with ⟨h_32, hp⟩ | ⟨h_32, hp⟩
     ·try simp at h_32
      obtain ⟨y_33, h_34, hp⟩ := zaa hp
      have c_35 := C104_eq h_34
      simp at c_35
      try simp [q_6, q_7, q_8, q_9, q_10, h_12, h_28, h_32, c_35]
      rcases zad hp with ⟨h_36, hp⟩ | ⟨h_36, hp⟩
      ·try simp at h_36
       cases hp
       try simp [q_6, q_7, q_8, q_9, q_10, h_12, h_28, h_32, h_36]
       refine zan ?_
       rw [X_4_]
       refine ⟨_, rfl, ?_, ?_, NoBox.restrict (by intro k hk hb; simp at hk hb; simp [hk, hb, q_6, q_7, q_8, q_9, q_10, h_12, h_28, h_32, h_36, hn_11 k (by simp [hk, hb])])⟩ <;> simp [zab, zac, q_6, q_7, q_8, q_9, q_10, h_12, h_28, h_32, h_36]
      ·try simp at h_36
       obtain ⟨_, h_37, hp⟩ := zaa hp
       have b_38 := room_ok h_37
       try simp at b_38
       obtain ⟨e_39, h_40, hp⟩ := zaa hp
       have b_41 := at_lo h_40
       have b_42 := at_hi h_40
       try simp at b_41 b_42
       have c_43 := seg_at' h_40 0 1 (by decide) (ds := [.sc (.int .i64 e_39)]) rfl
       try simp at c_43
       cases hp
       try simp [q_6, q_7, q_8, q_9, q_10, h_12, h_28, h_32, h_36, b_38, b_41, b_42, c_43]
       refine zak ?_
       rw [I_3_]
       refine ⟨?_, ?_, ?_, ?_, ?_, NoBox.restrict (by intro k hk hb; simp at hk hb; simp [hk, hb, q_6, q_7, q_8, q_9, q_10, h_12, h_28, h_32, h_36, b_38, b_41, b_42, c_43, hn_11 k (by simp [hk, hb])])⟩ <;> simp [zab, zac, q_6, q_7, q_8, q_9, q_10, h_12, h_28, h_32, h_36, b_38, b_41, b_42, c_43]
     ·try simp at h_32
      cases hp
      try simp [q_6, q_7, q_8, q_9, q_10, h_12, h_28, h_32]
      refine zao ?_
      rw [X_4_]
      refine ⟨_, rfl, ?_, ?_, NoBox.restrict (by intro k hk hb; simp at hk hb; simp [hk, hb, q_6, q_7, q_8, q_9, q_10, h_12, h_28, h_32, hn_11 k (by simp [hk, hb])])⟩ <;> simp [zab, zac, q_6, q_7, q_8, q_9, q_10, h_12, h_28, h_32]
    ·try simp at h_28
     cases hp
     try simp [q_6, q_7, q_8, q_9, q_10, h_12, h_28]
     refine zan ?_
     rw [X_4_]
     refine ⟨_, rfl, ?_, ?_, NoBox.restrict (by intro k hk hb; simp at hk hb; simp [hk, hb, q_6, q_7, q_8, q_9, q_10, h_12, h_28, hn_11 k (by simp [hk, hb])])⟩ <;> simp [zab, zac, q_6, q_7, q_8, q_9, q_10, h_12, h_28]
  ·intro out hX
   rw [X_4_] at hX
   rcases r_44 with r_44 | r_44
   ·simp only [Sum.elim_inl, Sum.elim_inr] at hX hp
    obtain ⟨σ_46, rfl, q_47, q_48, hn_49⟩ := hX
    cases hp
    simp [Goal, FnEnd, q_47, q_48]
   ·simp only [Sum.elim_inl, Sum.elim_inr] at hX hp
    obtain ⟨σ_50, rfl, q_51, q_52, hn_53⟩ := hX
    cases hp
    simp [Goal, FnEnd, q_51, q_52]
theorem pc105 : PC Tryz.prog 105 C105 := pc_of (g := g105) (zai [(104, C104), (140, C140)] rfl ⟨pc104, pc140, trivial⟩) ⟨Tryz.f105, Tryz.func105, by kernel_rfl, by kernel_rfl⟩ fun x y h => w105 h

noncomputable def C95 : List AV → Option AV := specP (X := THeap × Unit) fun x => impl_Heap_isCyclic x.1
theorem C95_eq {h_} {y} (h : impl_Heap_isCyclic h_ = some y) : C95 [av .shr h_] = some (Res.res y) := zag (X := THeap × Unit) (F := fun x => impl_Heap_isCyclic x.1) (x := (h_, ())) h
noncomputable def g95 : Cfg := { P := Tryz.prog, take := [], keep := [((95, 2), { hd := [1, 6, 7], bx := [], ex := [], rt := [2] })], gho := [], ctx := [(104, C104), (105, C105)] }
@[simp] theorem g95_s : g95.P = Tryz.prog ∧ g95.take = [] ∧ g95.gho = [] ∧ g95.ro = [] ∧ g95.away = [] ∧ g95.give = [] ∧ g95.octx = [] ∧ lookN 104 g95.ctx = some C104 ∧ lookN 105 g95.ctx = some C105 := by rw [g95]; exact ⟨rfl, rfl, rfl, rfl, rfl, rfl, rfl, rfl, rfl⟩
theorem w95 {h_} {y} (hp : impl_Heap_isCyclic h_ = some y) : ∃ m, callo g95 0 95 [av .shr h_] mem0 = some (Res.res y, m) := by
  refine zah (Tryz.f95.body.getD .skip) [.tmp 2] rfl rfl Tryz.func95 (by kernel_rfl) (by kernel_rfl) (by simp [Tryz.ntmps95]) rfl ?_
  unfold impl_Heap_isCyclic at hp
  simp [Tryz.f95]
  obtain ⟨r_24, h_25, hp⟩ := zaa hp
  obtain ⟨I_3, I_3_⟩ : ∃ I : Int → St → Prop, I = (fun (s_1 : Int) (σ : St) => σ.env 1 = .one (.ptr (1, 1) 0) ∧ σ.env 6 = .one (.s (.int .i64 (h_.next.length : Int))) ∧ σ.env 7 = .one (.s (.int .i64 s_1)) ∧ σ.mem (1, 1) = some [(.l .shr h_.vars.length (encL h_.vars)), (.l .shr h_.next.length (encL h_.next))] ∧ NoBox [(1, 1)] σ.mem) := ⟨_, rfl⟩
  obtain ⟨X_4, X_4_⟩ : ∃ X : ((Bool) ⊕ (Unit)) → Out → Prop, X = (fun (r_24 : (Bool) ⊕ (Unit)) (out : Out) => Sum.elim (fun r_24 => ∃ σ : St, out = .ret σ ∧ σ.env 2 = .one (.s (.bool r_24)) ∧ σ.mem (1, 1) = some [(.l .shr h_.vars.length (encL h_.vars)), (.l .shr h_.next.length (encL h_.next))] ∧ NoBox [(1, 1)] σ.mem) (fun r_24 => ∃ σ : St, out = .exit 0 σ ∧ σ.mem (1, 1) = some [(.l .shr h_.vars.length (encL h_.vars)), (.l .shr h_.next.length (encL h_.next))] ∧ NoBox [(1, 1)] σ.mem) r_24) := ⟨_, rfl⟩
  refine loopP ({ hd := [1, 6, 7], bx := [], ex := [], rt := [2] }) I_3 X_4 h_25 (by exact rfl) ?_ ?_ ?_
  ·rw [I_3_]
   refine ⟨?_, ?_, ?_, ?_, NoBox.restrict (by intro k hk hb; simp at hk hb; simp [hk, hb])⟩ <;> simp [zab, zac]
  ·intro s_1 σ_5 a_2 hI hp
   rw [I_3_] at hI
   obtain ⟨q_6, q_7, q_8, q_9, hn_10⟩ := hI
   try simp [q_6, q_7, q_8, q_9]
   rcases zad hp with ⟨h_11, hp⟩ | ⟨h_11, hp⟩
   ·try simp at h_11
    obtain ⟨e_12, h_13, hp⟩ := zaa hp
    have b_14 := at_lo h_13
    have b_15 := at_hi h_13
    try simp at b_14 b_15
    have c_16 := seg_at' h_13 0 1 (by decide) (ds := [.sc (.int .i64 e_12)]) rfl
    try simp at c_16
    obtain ⟨y_17, h_18, hp⟩ := zaa hp
    have c_19 := C105_eq h_18
    simp at c_19
    obtain ⟨y_20, h_21, hp⟩ := zaa hp
    have c_22 := C104_eq h_21
    simp at c_22
    try simp [q_6, q_7, q_8, q_9, h_11, b_14, b_15, c_16, c_19, c_22]
    rcases zad hp with ⟨h_23, hp⟩ | ⟨h_23, hp⟩
    ·try simp at h_23
     cases hp
     try simp [q_6, q_7, q_8, q_9, h_11, h_23]
     refine zao ?_
     rw [X_4_]
     refine ⟨_, rfl, ?_, ?_, NoBox.restrict (by intro k hk hb; simp at hk hb; simp [hk, hb, q_6, q_7, q_8, q_9, h_11, h_23, hn_10 k (by simp [hk, hb])])⟩ <;> simp [zab, zac, q_6, q_7, q_8, q_9, h_11, h_23]
    ·try simp at h_23
     cases hp
     try simp [q_6, q_7, q_8, q_9, h_11, h_23]
     refine zak ?_
     rw [I_3_]
     refine ⟨?_, ?_, ?_, ?_, NoBox.restrict (by intro k hk hb; simp at hk hb; simp [hk, hb, q_6, q_7, q_8, q_9, h_11, h_23, hn_10 k (by simp [hk, hb])])⟩ <;> simp [zab, zac, q_6, q_7, q_8, q_9, h_11, h_23]
   ·try simp at h_11
    cases hp
    try simp [q_6, q_7, q_8, q_9, h_11]
    refine zan ?_
    rw [X_4_]
    exact ⟨_, rfl, by simp [zac, q_6, q_7, q_8, q_9, h_11], NoBox.restrict (by intro k hk hb; simp at hk hb; simp [hk, hb, q_6, q_7, q_8, q_9, h_11, hn_10 k (by simp [hk, hb])])⟩
  ·intro out hX
   rw [X_4_] at hX
   rcases r_24 with r_24 | r_24
   ·simp only [Sum.elim_inl, Sum.elim_inr] at hX hp
    obtain ⟨σ_26, rfl, q_27, q_28, hn_29⟩ := hX
    cases hp
    simp [Goal, FnEnd, q_27, q_28]
   ·simp only [Sum.elim_inl, Sum.elim_inr] at hX hp
    obtain ⟨σ_30, rfl, q_31, hn_32⟩ := hX
    cases hp
    simp [Goal, FnEnd, q_31]
theorem pc95 : PC Tryz.prog 95 C95 := pc_of (g := g95) (zai [(104, C104), (105, C105)] rfl ⟨pc104, pc105, trivial⟩) ⟨Tryz.f95, Tryz.func95, by kernel_rfl, by kernel_rfl⟩ fun x y h => w95 h

noncomputable def C96 : List AV → Option AV := specP (X := THeap × Unit) fun x => impl_Heap_met x.1
theorem C96_eq {h_} {y} (h : impl_Heap_met h_ = some y) : C96 [av .shr h_] = some (Res.res y) := zag (X := THeap × Unit) (F := fun x => impl_Heap_met x.1) (x := (h_, ())) h
noncomputable def g96 : Cfg := { P := Tryz.prog, take := [(96, 28), (96, 34)], keep := [((96, 3), { hd := [1, 3, 10, 11, 12], bx := [], ex := [3], rt := [2] }), ((96, 6), { hd := [1, 3, 10, 11, 12, 18, 19, 20], bx := [], ex := [1, 3, 10, 11, 12], rt := [2] })], gho := [], ctx := [(104, C104), (105, C105)] }
@[simp] theorem g96_s : g96.P = Tryz.prog ∧ g96.take = [(96, 28), (96, 34)] ∧ g96.gho = [] ∧ g96.ro = [] ∧ g96.away = [] ∧ g96.give = [] ∧ g96.octx = [] ∧ lookN 104 g96.ctx = some C104 ∧ lookN 105 g96.ctx = some C105 := by rw [g96]; exact ⟨rfl, rfl, rfl, rfl, rfl, rfl, rfl, rfl, rfl⟩
theorem w96 {h_} {y} (hp : impl_Heap_met h_ = some y) : ∃ m, callo g96 0 96 [av .shr h_] mem0 = some (Res.res y, m) := by
  refine zah (Tryz.f96.body.getD .skip) [.tmp 2] rfl rfl Tryz.func96 (by kernel_rfl) (by kernel_rfl) (by simp [Tryz.ntmps96]) rfl ?_
  unfold impl_Heap_met at hp
  simp [Tryz.f96]
  obtain ⟨r_59, h_60, hp⟩ := zaa hp
  obtain ⟨I_3, I_3_⟩ : ∃ I : (List Int) × Int → St → Prop, I = (fun (s_1 : (List Int) × Int) (σ : St) => σ.env 1 = .one (.ptr (1, 1) 0) ∧ σ.env 3 = .one (.l .own s_1.1.length (encL s_1.1)) ∧ σ.env 10 = .one (.l .shr h_.vars.length (encL h_.vars)) ∧ σ.env 11 = .one (.s (.int .i64 (h_.vars.length : Int))) ∧ σ.env 12 = .one (.s (.int .i64 s_1.2)) ∧ σ.mem (1, 1) = some [(.l .shr h_.vars.length (encL h_.vars)), (.l .shr h_.next.length (encL h_.next))] ∧ NoBox [(1, 1)] σ.mem) := ⟨_, rfl⟩
  obtain ⟨X_4, X_4_⟩ : ∃ X : (List Int) → Out → Prop, X = (fun (r_59 : (List Int)) (out : Out) => ∃ σ : St, out = .exit 0 σ ∧ σ.env 3 = .one (.l .own r_59.length (encL r_59)) ∧ σ.mem (1, 1) = some [(.l .shr h_.vars.length (encL h_.vars)), (.l .shr h_.next.length (encL h_.next))] ∧ NoBox [(1, 1)] σ.mem) := ⟨_, rfl⟩
  refine loopP ({ hd := [1, 3, 10, 11, 12], bx := [], ex := [3], rt := [2] }) I_3 X_4 h_60 (by exact rfl) ?_ ?_ ?_
  ·rw [I_3_]
   refine ⟨?_, ?_, ?_, ?_, ?_, ?_, NoBox.restrict (by intro k hk hb; simp at hk hb; simp [hk, hb])⟩ <;> simp [zab, zac]
  ·intro s_1 σ_5 a_2 hI hp
   rw [I_3_] at hI
   obtain ⟨q_6, q_7, q_8, q_9, q_10, q_11, hn_12⟩ := hI
   try simp [q_6, q_7, q_8, q_9, q_10, q_11]
   rcases zad hp with ⟨h_13, hp⟩ | ⟨h_13, hp⟩
   ·try simp at h_13
    obtain ⟨e_14, h_15, hp⟩ := zaa hp
    have b_16 := at_lo h_15
    have b_17 := at_hi h_15
    try simp at b_16 b_17
    have c_18 := seg_at' h_15 0 1 (by decide) (ds := [.sc (.int .i64 e_14)]) rfl
    try simp at c_18
    obtain ⟨y_19, h_20, hp⟩ := zaa hp
    have c_21 := C105_eq h_20
    simp at c_21
    try simp [q_6, q_7, q_8, q_9, q_10, q_11, h_13, b_16, b_17, c_18, c_21]
    obtain ⟨r_49, h_50, hp⟩ := zaa hp
    obtain ⟨I_24, I_24_⟩ : ∃ I : Int × (List Int) → St → Prop, I = (fun (s_22 : Int × (List Int)) (σ : St) => σ.env 1 = .one (.ptr (1, 1) 0) ∧ σ.env 3 = .one (.l .own s_22.2.length (encL s_22.2)) ∧ σ.env 10 = .one (.l .shr h_.vars.length (encL h_.vars)) ∧ σ.env 11 = .one (.s (.int .i64 (h_.vars.length : Int))) ∧ σ.env 12 = .one (.s (.int .i64 s_1.2)) ∧ σ.env 18 = .one (.l .own y_19.length (encL y_19)) ∧ σ.env 19 = .one (.s (.int .i64 (y_19.length : Int))) ∧ σ.env 20 = .one (.s (.int .i64 s_22.1)) ∧ σ.mem (1, 1) = some [(.l .shr h_.vars.length (encL h_.vars)), (.l .shr h_.next.length (encL h_.next))] ∧ NoBox [(1, 1)] σ.mem) := ⟨_, rfl⟩
    obtain ⟨X_25, X_25_⟩ : ∃ X : (List Int) → Out → Prop, X = (fun (r_49 : (List Int)) (out : Out) => ∃ σ : St, out = .exit 2 σ ∧ σ.env 1 = .one (.ptr (1, 1) 0) ∧ σ.env 3 = .one (.l .own r_49.length (encL r_49)) ∧ σ.env 10 = .one (.l .shr h_.vars.length (encL h_.vars)) ∧ σ.env 11 = .one (.s (.int .i64 (h_.vars.length : Int))) ∧ σ.env 12 = .one (.s (.int .i64 s_1.2)) ∧ σ.mem (1, 1) = some [(.l .shr h_.vars.length (encL h_.vars)), (.l .shr h_.next.length (encL h_.next))] ∧ NoBox [(1, 1)] σ.mem) := ⟨_, rfl⟩
    refine loopP ({ hd := [1, 3, 10, 11, 12, 18, 19, 20], bx := [], ex := [1, 3, 10, 11, 12], rt := [2] }) I_24 X_25 h_50 (by exact rfl) ?_ ?_ ?_
    ·rw [I_24_]
     refine ⟨?_, ?_, ?_, ?_, ?_, ?_, ?_, ?_, ?_, NoBox.restrict (by intro k hk hb; simp at hk hb; simp [hk, hb, q_6, q_7, q_8, q_9, q_10, q_11, h_13, hn_12 k (by simp [hk, hb])])⟩ <;> simp [zab, zac, q_6, q_7, q_8, q_9, q_10, q_11, h_13]
    ·intro s_22 σ_26 a_23 hI hp
     rw [I_24_] at hI
     obtain ⟨q_27, q_28, q_29, q_30, q_31, q_32, q_33, q_34, q_35, hn_36⟩ := hI
     try simp [h_13, q_27, q_28, q_29, q_30, q_31, q_32, q_33, q_34, q_35]
     rcases zad hp with ⟨h_37, hp⟩ | ⟨h_37, hp⟩
     ·try simp at h_37
      obtain ⟨e_38, h_39, hp⟩ := zaa hp
      have b_40 := at_lo h_39
      have b_41 := at_hi h_39
      try simp at b_40 b_41
      have c_42 := seg_at' h_39 0 1 (by decide) (ds := [.sc (.int .i64 e_38)]) rfl
      try simp at c_42
      obtain ⟨y_43, h_44, hp⟩ := zaa hp
      have c_45 := C104_eq h_44
      simp at c_45
      try simp [h_13, q_27, q_28, q_29, q_30, q_31, q_32, q_33, q_34, q_35, h_37, b_40, b_41, c_42, c_45]
      rcases zad hp with ⟨h_46, hp⟩ | ⟨h_46, hp⟩
      ·try simp at h_46
       cases hp
       try simp [h_13, q_27, q_28, q_29, q_30, q_31, q_32, q_33, q_34, q_35, h_37, h_46]
       refine zak ?_
       rw [I_24_]
       refine ⟨?_, ?_, ?_, ?_, ?_, ?_, ?_, ?_, ?_, NoBox.restrict (by intro k hk hb; simp at hk hb; simp [hk, hb, h_13, q_27, q_28, q_29, q_30, q_31, q_32, q_33, q_34, q_35, h_37, h_46, hn_36 k (by simp [hk, hb])])⟩ <;> simp [zab, zac, h_13, q_27, q_28, q_29, q_30, q_31, q_32, q_33, q_34, q_35, h_37, h_46]
      ·try simp at h_46
       obtain ⟨_, h_47, hp⟩ := zaa hp
       have b_48 := room_ok h_47
       try simp at b_48
       cases hp
       try simp [h_13, q_27, q_28, q_29, q_30, q_31, q_32, q_33, q_34, q_35, h_37, h_46, b_48]
       refine zak ?_
       rw [I_24_]
       refine ⟨?_, ?_, ?_, ?_, ?_, ?_, ?_, ?_, ?_, NoBox.restrict (by intro k hk hb; simp at hk hb; simp [hk, hb, h_13, q_27, q_28, q_29, q_30, q_31, q_32, q_33, q_34, q_35, h_37, h_46, b_48, hn_36 k (by simp [hk, hb])])⟩ <;> simp [zab, zac, h_13, q_27, q_28, q_29, q_30, q_31, q_32, q_33, q_34, q_35, h_37, h_46, b_48]
     ·try simp at h_37
      cases hp
      try simp [h_13, q_27, q_28, q_29, q_30, q_31, q_32, q_33, q_34, q_35, h_37]
      refine zan ?_
      rw [X_25_]
      refine ⟨_, rfl, ?_, ?_, ?_, ?_, ?_, ?_, NoBox.restrict (by intro k hk hb; simp at hk hb; simp [hk, hb, h_13, q_27, q_28, q_29, q_30, q_31, q_32, q_33, q_34, q_35, h_37, hn_36 k (by simp [hk, hb])])⟩ <;> simp [zab, zac, h_13, q_27, q_28, q_29, q_30, q_31, q_32, q_33, q_34, q_35, h_37]
    ·intro out hX
     rw [X_25_] at hX
     obtain ⟨σ_51, rfl, q_52, q_53, q_54, q_55, q_56, q_57, hn_58⟩ := hX
     cases hp
     try simp [h_13, q_52, q_53, q_54, q_55, q_56, q_57]
     refine zak ?_
     rw [I_3_]
     refine ⟨?_, ?_, ?_, ?_, ?_, ?_, NoBox.restrict (by intro k hk hb; simp at hk hb; simp [hk, hb, h_13, q_52, q_53, q_54, q_55, q_56, q_57, hn_58 k (by simp [hk, hb])])⟩ <;> simp [zab, zac, h_13, q_52, q_53, q_54, q_55, q_56, q_57]
   ·try simp at h_13
    cases hp
    try simp [q_6, q_7, q_8, q_9, q_10, q_11, h_13]
    refine zan ?_
    rw [X_4_]
    refine ⟨_, rfl, ?_, ?_, NoBox.restrict (by intro k hk hb; simp at hk hb; simp [hk, hb, q_6, q_7, q_8, q_9, q_10, q_11, h_13, hn_12 k (by simp [hk, hb])])⟩ <;> simp [zab, zac, q_6, q_7, q_8, q_9, q_10, q_11, h_13]
  ·intro out hX
   rw [X_4_] at hX
   obtain ⟨σ_61, rfl, q_62, q_63, hn_64⟩ := hX
   cases hp
   simp [Goal, FnEnd, q_62, q_63]
theorem pc96 : PC Tryz.prog 96 C96 := pc_of (g := g96) (zai [(104, C104), (105, C105)] rfl ⟨pc104, pc105, trivial⟩) ⟨Tryz.f96, Tryz.func96, by kernel_rfl, by kernel_rfl⟩ fun x y h => w96 h

noncomputable def C54 : List AV → Option AV := specP (X := Int × THeap × Unit) fun x => impl_IsHeap x.1 x.2.1
theorem C54_eq {vars h_} {y} (h : impl_IsHeap vars h_ = some y) : C54 [av .shr vars, av .shr h_] = some (Res.res y) := zag (X := Int × THeap × Unit) (F := fun x => impl_IsHeap x.1 x.2.1) (x := (vars, h_, ())) h
noncomputable def g54 : Cfg := { P := Tryz.prog, take := [], keep := [((54, 5), { hd := [3, 5, 35, 36, 37], bx := [], ex := [3, 5], rt := [4] })], gho := [], ctx := [(56, C56), (94, C94), (95, C95), (96, C96)] }
@[simp] theorem g54_s : g54.P = Tryz.prog ∧ g54.take = [] ∧ g54.gho = [] ∧ g54.ro = [] ∧ g54.away = [] ∧ g54.give = [] ∧ g54.octx = [] ∧ lookN 56 g54.ctx = some C56 ∧ lookN 94 g54.ctx = some C94 ∧ lookN 95 g54.ctx = some C95 ∧ lookN 96 g54.ctx = some C96 := by rw [g54]; exact ⟨rfl, rfl, rfl, rfl, rfl, rfl, rfl, rfl, rfl, rfl, rfl⟩
theorem w54 {vars h_} {y} (hp : impl_IsHeap vars h_ = some y) : ∃ m, callo g54 0 54 [av .shr vars, av .shr h_] mem0 = some (Res.res y, m) := by
  refine zah (Tryz.f54.body.getD .skip) [.tmp 4] rfl rfl Tryz.func54 (by kernel_rfl) (by kernel_rfl) (by simp [Tryz.ntmps54]) rfl ?_
  unfold impl_IsHeap at hp
  obtain ⟨y_1, h_2, hp⟩ := zaa hp
  have c_3 := C56_eq h_2
  simp at c_3
  simp [Tryz.f54, c_3]
  rcases zad hp with ⟨h_4, hp⟩ | ⟨h_4, hp⟩
  ·try simp at h_4
   try simp [h_4]
   rcases zad hp with ⟨h_5, hp⟩ | ⟨h_5, hp⟩
   ·try simp at h_5
    cases hp
    simp [Goal, FnEnd, h_4, h_5]
   ·try simp at h_5
    try simp [h_4, h_5]
    rcases zad hp with ⟨h_6, hp⟩ | ⟨h_6, hp⟩
    ·try simp at h_6
     cases hp
     simp [Goal, FnEnd, h_4, h_5, h_6]
    ·try simp at h_6
     obtain ⟨y_7, h_8, hp⟩ := zaa hp
     have c_9 := C94_eq h_8
     simp at c_9
     try simp [h_4, h_5, h_6, c_9]
     rcases zad hp with ⟨h_10, hp⟩ | ⟨h_10, hp⟩
     ·try simp at h_10
      obtain ⟨y_11, h_12, hp⟩ := zaa hp
      have c_13 := C95_eq h_12
      simp at c_13
      try simp [h_4, h_5, h_6, h_10, c_13]
      rcases zad hp with ⟨h_14, hp⟩ | ⟨h_14, hp⟩
      ·try simp at h_14
       cases hp
       simp [Goal, FnEnd, h_4, h_5, h_6, h_10, h_14]
      ·try simp at h_14
       obtain ⟨y_15, h_16, hp⟩ := zaa hp
       have c_17 := C96_eq h_16
       simp at c_17
       try simp [h_4, h_5, h_6, h_10, h_14, c_17]
       obtain ⟨r_37, h_38, hp⟩ := zaa hp
       obtain ⟨I_20, I_20_⟩ : ∃ I : Int → St → Prop, I = (fun (s_18 : Int) (σ : St) => σ.env 3 = .one (.ptr (1, 3) 0) ∧ σ.env 5 = .one (.l .own y_15.length (encL y_15)) ∧ σ.env 35 = .one (.l .bor y_15.length (encL y_15)) ∧ σ.env 36 = .one (.s (.int .i64 (y_15.length : Int))) ∧ σ.env 37 = .one (.s (.int .i64 s_18)) ∧ σ.mem (1, 3) = some [(.l .shr h_.vars.length (encL h_.vars)), (.l .shr h_.next.length (encL h_.next))] ∧ NoBox [(1, 3)] σ.mem) := ⟨_, rfl⟩
       obtain ⟨X_21, X_21_⟩ : ∃ X : ((Unit) ⊕ (Unit)) → Out → Prop, X = (fun (r_37 : (Unit) ⊕ (Unit)) (out : Out) => Sum.elim (fun r_37 => ∃ σ : St, out = .ret σ ∧ σ.env 4 = .one (.s (.bool false)) ∧ σ.mem (1, 3) = some [(.l .shr h_.vars.length (encL h_.vars)), (.l .shr h_.next.length (encL h_.next))] ∧ NoBox [(1, 3)] σ.mem) (fun r_37 => ∃ σ : St, out = .exit 0 σ ∧ σ.env 3 = .one (.ptr (1, 3) 0) ∧ σ.env 5 = .one (.l .own y_15.length (encL y_15)) ∧ σ.mem (1, 3) = some [(.l .shr h_.vars.length (encL h_.vars)), (.l .shr h_.next.length (encL h_.next))] ∧ NoBox [(1, 3)] σ.mem) r_37) := ⟨_, rfl⟩
       refine loopP ({ hd := [3, 5, 35, 36, 37], bx := [], ex := [3, 5], rt := [4] }) I_20 X_21 h_38 (by exact rfl) ?_ ?_ ?_
       ·rw [I_20_]
        refine ⟨?_, ?_, ?_, ?_, ?_, ?_, NoBox.restrict (by intro k hk hb; simp at hk hb; simp [hk, hb, h_4, h_5, h_6, h_10, h_14])⟩ <;> simp [zab, zac, h_4, h_5, h_6, h_10, h_14]
       ·intro s_18 σ_22 a_19 hI hp
        rw [I_20_] at hI
        obtain ⟨q_23, q_24, q_25, q_26, q_27, q_28, hn_29⟩ := hI
        try simp [h_4, h_5, h_6, h_10, h_14, q_23, q_24, q_25, q_26, q_27, q_28]
        rcases zad hp with ⟨h_30, hp⟩ | ⟨h_30, hp⟩
        ·try simp at h_30
         obtain ⟨e_31, h_32, hp⟩ := zaa hp
         have b_33 := at_lo h_32
         have b_34 := at_hi h_32
         try simp at b_33 b_34
         have c_35 := seg_at' h_32 0 1 (by decide) (ds := [.sc (.int .i64 e_31)]) rfl
         try simp at c_35
         try simp [h_4, h_5, h_6, h_10, h_14, q_23, q_24, q_25, q_26, q_27, q_28, h_30, b_33, b_34, c_35]
         rcases zad hp with ⟨h_36, hp⟩ | ⟨h_36, hp⟩
         ·try simp at h_36
          cases hp
          try simp [h_4, h_5, h_6, h_10, h_14, q_23, q_24, q_25, q_26, q_27, q_28, h_30, h_36]
          refine zao ?_
          rw [X_21_]
          refine ⟨_, rfl, ?_, ?_, NoBox.restrict (by intro k hk hb; simp at hk hb; simp [hk, hb, h_4, h_5, h_6, h_10, h_14, q_23, q_24, q_25, q_26, q_27, q_28, h_30, h_36, hn_29 k (by simp [hk, hb])])⟩ <;> simp [zab, zac, h_4, h_5, h_6, h_10, h_14, q_23, q_24, q_25, q_26, q_27, q_28, h_30, h_36]
         ·try simp at h_36
          cases hp
          try simp [h_4, h_5, h_6, h_10, h_14, q_23, q_24, q_25, q_26, q_27, q_28, h_30, h_36]
          refine zak ?_
          rw [I_20_]
          refine ⟨?_, ?_, ?_, ?_, ?_, ?_, NoBox.restrict (by intro k hk hb; simp at hk hb; simp [hk, hb, h_4, h_5, h_6, h_10, h_14, q_23, q_24, q_25, q_26, q_27, q_28, h_30, h_36, hn_29 k (by simp [hk, hb])])⟩ <;> simp [zab, zac, h_4, h_5, h_6, h_10, h_14, q_23, q_24, q_25, q_26, q_27, q_28, h_30, h_36]
        ·try simp at h_30
         cases hp
         try simp [h_4, h_5, h_6, h_10, h_14, q_23, q_24, q_25, q_26, q_27, q_28, h_30]
         refine zan ?_
         rw [X_21_]
         refine ⟨_, rfl, ?_, ?_, ?_, NoBox.restrict (by intro k hk hb; simp at hk hb; simp [hk, hb, h_4, h_5, h_6, h_10, h_14, q_23, q_24, q_25, q_26, q_27, q_28, h_30, hn_29 k (by simp [hk, hb])])⟩ <;> simp [zab, zac, h_4, h_5, h_6, h_10, h_14, q_23, q_24, q_25, q_26, q_27, q_28, h_30]
       ·intro out hX
        rw [X_21_] at hX
        rcases r_37 with r_37 | r_37
        ·simp only [Sum.elim_inl, Sum.elim_inr] at hX hp
         obtain ⟨σ_39, rfl, q_40, q_41, hn_42⟩ := hX
         cases hp
         simp [Goal, FnEnd, h_4, h_5, h_6, h_10, h_14, q_40, q_41]
        ·simp only [Sum.elim_inl, Sum.elim_inr] at hX hp
         obtain ⟨σ_43, rfl, q_44, q_45, q_46, hn_47⟩ := hX
         cases hp
         simp [Goal, FnEnd, h_4, h_5, h_6, h_10, h_14, q_44, q_45, q_46]
     ·try simp at h_10
      cases hp
      simp [Goal, FnEnd, h_4, h_5, h_6, h_10]
  ·try simp at h_4
   cases hp
   simp [Goal, FnEnd, h_4]
theorem pc54 : PC Tryz.prog 54 C54 := pc_of (g := g54) (zai [(56, C56), (94, C94), (95, C95), (96, C96)] rfl ⟨pc56, pc94, pc95, pc96, trivial⟩) ⟨Tryz.f54, Tryz.func54, by kernel_rfl, by kernel_rfl⟩ fun x y h => w54 h

noncomputable def C55 : List AV → Option AV := specP (X := THeap × Unit) fun x => impl_Heap_own x.1
theorem C55_eq {h_} {y} (h : impl_Heap_own h_ = some y) : C55 [av .shr h_] = some (Res.res y) := zag (X := THeap × Unit) (F := fun x => impl_Heap_own x.1) (x := (h_, ())) h
noncomputable def g55 : Cfg := { P := Tryz.prog, take := [], keep := [], gho := [], ctx := [(97, C97)] }
@[simp] theorem g55_s : g55.P = Tryz.prog ∧ g55.take = [] ∧ g55.gho = [] ∧ g55.ro = [] ∧ g55.away = [] ∧ g55.give = [] ∧ g55.octx = [] ∧ lookN 97 g55.ctx = some C97 := by rw [g55]; exact ⟨rfl, rfl, rfl, rfl, rfl, rfl, rfl, rfl⟩
theorem w55 {h_} {y} (hp : impl_Heap_own h_ = some y) : ∃ m, callo g55 0 55 [av .shr h_] mem0 = some (Res.res y, m) := by
  refine zah (Tryz.f55.body.getD .skip) [.cell 2 31] rfl rfl Tryz.func55 (by kernel_rfl) (by kernel_rfl) (by simp [Tryz.ntmps55]) rfl ?_
  unfold impl_Heap_own at hp
  obtain ⟨y_1, h_2, hp⟩ := zaa hp
  have c_3 := C97_eq h_2
  simp at c_3
  obtain ⟨y_4, h_5, hp⟩ := zaa hp
  have c_6 := C97_eq h_5
  simp at c_6
  cases hp
  simp [Tryz.f55, Goal, FnEnd, retR, rsrc, RSrc.val, nodupR, nodup, tupPart, c_3, c_6]
theorem pc55 : PC Tryz.prog 55 C55 := pc_of (g := g55) (zai [(97, C97)] rfl ⟨pc97, trivial⟩) ⟨Tryz.f55, Tryz.func55, by kernel_rfl, by kernel_rfl⟩ fun x y h => w55 h

noncomputable def C99 : List AV → Option AV := specP (X := THeap × (List ByteArray) × ByteArray × Unit) fun x => impl_Heap_at x.1 x.2.1 x.2.2.1
theorem C99_eq {h_ vars name} {y} (h : impl_Heap_at h_ vars name = some y) : C99 [av .shr h_, av .shr vars, av .shr name] = some (Res.res y) := zag (X := THeap × (List ByteArray) × ByteArray × Unit) (F := fun x => impl_Heap_at x.1 x.2.1 x.2.2.1) (x := (h_, vars, name, ())) h
noncomputable def g99 : Cfg := { P := Tryz.prog, take := [], keep := [], gho := [], ctx := [(98, C98)] }
@[simp] theorem g99_s : g99.P = Tryz.prog ∧ g99.take = [] ∧ g99.gho = [] ∧ g99.ro = [] ∧ g99.away = [] ∧ g99.give = [] ∧ g99.octx = [] ∧ lookN 98 g99.ctx = some C98 := by rw [g99]; exact ⟨rfl, rfl, rfl, rfl, rfl, rfl, rfl, rfl⟩
theorem w99 {h_ vars name} {y} (hp : impl_Heap_at h_ vars name = some y) : ∃ m, callo g99 0 99 [av .shr h_, av .shr vars, av .shr name] mem0 = some (Res.res y, m) := by
  refine zah (Tryz.f99.body.getD .skip) [.tmp 6] rfl rfl Tryz.func99 (by kernel_rfl) (by kernel_rfl) (by simp [Tryz.ntmps99]) rfl ?_
  unfold impl_Heap_at at hp
  obtain ⟨y_1, h_2, hp⟩ := zaa hp
  have c_3 := C98_eq h_2
  simp at c_3
  simp [Tryz.f99, c_3]
  rcases zad hp with ⟨h_4, hp⟩ | ⟨h_4, hp⟩
  ·try simp at h_4
   obtain ⟨e_5, h_6, hp⟩ := zaa hp
   have b_7 := at_lo h_6
   have b_8 := at_hi h_6
   try simp at b_7 b_8
   have c_9 := seg_at' h_6 0 1 (by decide) (ds := [.sc (.int .i64 e_5)]) rfl
   try simp at c_9
   cases hp
   simp [Goal, FnEnd, h_4, b_7, b_8, c_9]
  ·try simp at h_4
   cases hp
   simp [Goal, FnEnd, h_4]
theorem pc99 : PC Tryz.prog 99 C99 := pc_of (g := g99) (zai [(98, C98)] rfl ⟨pc98, trivial⟩) ⟨Tryz.f99, Tryz.func99, by kernel_rfl, by kernel_rfl⟩ fun x y h => w99 h
end Go.Proofs

