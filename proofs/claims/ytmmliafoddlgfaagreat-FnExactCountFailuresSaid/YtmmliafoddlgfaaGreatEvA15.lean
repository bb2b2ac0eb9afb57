import Derived.Test.YtmmliafoddlgfaaGreatEvA14
set_option linter.unusedSimpArgs false
set_option linter.unusedVariables false
set_option linter.unnecessarySimpa false
noncomputable section
set_option maxHeartbeats 4000000
set_option maxRecDepth 100000
namespace Go.Proofs
open Go.Ev
abbrev G135 (g : Cfg) : Prop := Has Tryz.prog g 135 Tryz.f135 [] [] [(136, C136)] []
theorem wI135 {g : Cfg} (G : G135 g) {d : Nat} {mem : Mem} (hT : Tight d mem) {K_1 : Key} {name : ByteArray} {c0 : (List ByteArray)} {mk_1 : Md} (hk_1 : K_1.1 ≤ d) (hb_1 : mem K_1 = some [(.l mk_1 c0.length (encL c0))]) {y} (hp : impl_IsStmt_1 name c0 = some y) : callo g d 135 [av .shr name, .one (.ptr K_1 0)] mem = some (Res.res y, mem) := by
 have gP := G.P; have gt := G.tk; have gr := G.ro; have gg := G.gh
 have c_136 := G.cs (136, C136) (by simp)
 have hT2 : memKill (fun k => decide (d < k.1)) mem = mem := hT
 have nk_1 : ∀ t, (K_1 = (d + 1, t)) = False := fun t => by simp; intro h; rw [h] at hk_1; simp at hk_1; omega
 refine start_in (Tryz.f135.body.getD .skip) [.tmp 3] G Tryz.func135 (by kernel_rfl) (by simp [Tryz.ntmps135]) rfl ?_
 unfold impl_IsStmt_1 at hp
 obtain ⟨y_1, h_2, hp⟩ := zab hp
 have c_3 := C136_eq h_2
 simp at c_3
 cases hp
 simp [Tryz.f135, Goal, FnEndI, memKill_hi, gP, gt, gr, gg, c_136, hb_1, nk_1, c_3, hT2]

def C93 : List AV → Option AV := specP (X := (List ByteArray) × TStmt × Unit) fun x => impl_IsStmt x.1 x.2.1
theorem C93_eq {vars s} {y} (h : impl_IsStmt vars s = some y) : C93 [av .shr vars, av .shr s] = some (Res.res y) := zag (x := (vars, s, ())) h
def g93 : Cfg := { P := Tryz.prog, take := [], keep := [((134, 3), { hd := [1, 5, 15, 16, 17], bx := [], ex := [5], rt := [4] })], gho := [], ctx := [(90, C90), (136, C136), (153, C153)] }
@[simp] theorem g93_s : g93.P = Tryz.prog ∧ g93.ctx = [(90, C90), (136, C136), (153, C153)] ∧ Pl0 g93 := by simp [g93]
theorem w93 {vars s} {y} (hp : impl_IsStmt vars s = some y) : ∃ m, callo g93 0 93 [av .shr vars, av .shr s] mem0 = some (Res.res y, m) := by
 have G_134 : G134 g93 := ⟨rfl, by kernel_rfl, rfl, fun t => by simp, noAway (fun t => by simp) (by simp) (fun t => by simp), by simp [lookN], fun i => by simp [lookK], by simp [g93, lookK], by simp⟩
 have G_135 : G135 g93 := ⟨rfl, by kernel_rfl, rfl, fun t => by simp, noAway (fun t => by simp) (by simp) (fun t => by simp), by simp [lookN], fun i => by simp [lookK], by simp [g93, lookK], by simp⟩
 refine st0 [.tmp 4] Tryz.func93 ?_
 unfold impl_IsStmt at hp
 obtain ⟨y_1, h_2, hp⟩ := zab hp
 have c_3 := C90_eq h_2
 simp at c_3
 simp [Tryz.f93, c_3]
 rcases zad hp with ⟨h_4, hp⟩ | ⟨h_4, hp⟩
 ·try simp at h_4
  obtain ⟨y_5, h_6, hp⟩ := zab hp
  try simp [h_4]
  refine goal_call [av .shr s, .one (.fn 135 [((1, 2), 0)])] (Res.res y_5) (by simp [h_4]) (wI134 G_134 (by repeat (first | exact zaf _ | exact hT.up | exact hT | (simp only [true_and]; done) | refine Tight.upd ?_ (by simp) (by simp) | refine Tight.killB ?_ | refine zaj ?_)) (by simp) (clo1 (p := fun x0 => impl_IsStmt_1 x0 vars) fun d2 mem2 m0 x0 r2 hd2 ha2 hT2 hm0 hr2 => wI135 (mk_1 := .shr) G_135 hT2 (show 1 ≤ d2 from hd2) ((ha2 _ (Nat.le_refl _)).trans (by simp [h_4])) hr2) h_6) ?_
  cases hp
  simp [Goal, FnEnd, h_4]
 ·try simp at h_4
  cases hp
  simp [Goal, FnEnd, h_4]
theorem pc93 : PC Tryz.prog 93 C93 := pc_of (g := g93) (zai _ g93_s.2.1 ⟨pc90, pc136, pc153, trivial⟩) (ent Tryz.func93) fun x y h => w93 h

abbrev G133 (g : Cfg) : Prop := Has Tryz.prog g 133 Tryz.f133 [] [(2, { hd := [0, 1, 7, 8], bx := [], ex := [], rt := [4] })] [] []
theorem wI133 {g : Cfg} (G : G133 g) {d : Nat} {mem : Mem} (hT : Tight d mem)  {s : (List TEdge)} {f_ : (TEdge → Option (Bool))} {m_0 : Md} (hm_0 : LentM m_0) {fk_f_ : Nat} {caps_f_ : List (Key × Nat)} (hl_f_ : ∀ c ∈ caps_f_, c.1.1 ≤ d) (hc_f_ : Clo g d mem fk_f_ caps_f_ fun x : TEdge × Unit => f_ x.1) {y} (hp : slices_IndexFunc_Edge s f_ = some y) : callo g d 133 [av m_0 s, .one (.fn fk_f_ caps_f_)] mem = some (Res.res y, mem) := by
 have gP := G.P; have gt := G.tk; have gr := G.ro; have gg := G.gh
 have k_2 := G.kp (2, { hd := [0, 1, 7, 8], bx := [], ex := [], rt := [4] }) (by simp)
 have hT2 : memKill (fun k => decide (d < k.1)) mem = mem := hT
 refine start_in (Tryz.f133.body.getD .skip) [.tmp 4] G Tryz.func133 (by kernel_rfl) (by simp [Tryz.ntmps133]) rfl ?_
 unfold slices_IndexFunc_Edge at hp
 simp [Tryz.f133, gP, gt, gr, gg, hm_0.copy, hm_0.elem]
 obtain ⟨r_18, h_19, hp⟩ := zab hp
 obtain ⟨I_3, I_3_⟩ := exV fun (s_1 : Int) (σ : St) => (σ.env 0 = uL m_0 s ∧ σ.env 7 = uI (s.length : Int) ∧ σ.env 8 = uI s_1) ∧ σ.env 1 = .one (.fn fk_f_ caps_f_) ∧ σ.mem = mem
 obtain ⟨X_4, X_4_⟩ := exV fun (r_18 : (Int) ⊕ (Unit)) (out : Out) => Sum.elim (fun r_18 => ∃ σ : St, out = .ret σ ∧ σ.env 4 = uI r_18 ∧ σ.mem = mem) (fun r_18 => ∃ σ : St, out = .exit 0 σ ∧ σ.mem = mem) r_18
 refine loopP ({ hd := [0, 1, 7, 8], bx := [], ex := [], rt := [4] }) I_3 X_4 h_19 (by exact k_2) ?_ ?_ ?_
 ·rw [I_3_]
  exact ⟨by simp [zac, zaa, gP, gt, gr, gg, hm_0.copy, hm_0.elem], by simp [zac, gP, gt, gr, gg, hm_0.copy, hm_0.elem] <;> first | (intro x x1 x2 hx; have h0 := hl_f_ _ hx; simp at h0; omega) | (intro x hx; have h0 := hl_f_ _ hx; simp at h0; omega), by simp [zaa, gP, gt, gr, gg, hm_0.copy, hm_0.elem]⟩
 ·intro s_1 σ_5 a_2 hI hp
  rw [I_3_] at hI
  obtain ⟨q_8, q_6, q_7⟩ := hI
  try simp [gP, gt, gr, gg, hm_0.copy, hm_0.elem, q_8, q_6, q_7]
  rcases zad hp with ⟨h_9, hp⟩ | ⟨h_9, hp⟩
  ·try simp at h_9
   obtain ⟨e_10, h_11, hp⟩ := zab hp
   have b_12 := at_lo h_11
   have b_13 := at_hi h_11
   try simp at b_12 b_13
   have c_14 := seg_at' h_11 0 5 (by decide) (ds := [.sc (.int .i64 e_10.from_), .sc (.int .i64 e_10.to_), .sc (.int .i64 e_10.stmt.kind), .sc (.string e_10.stmt.a), .sc (.string e_10.stmt.b)]) rfl
   try simp at c_14
   obtain ⟨y_15, h_16, hp⟩ := zab hp
   try simp [gP, gt, gr, gg, hm_0.copy, hm_0.elem, q_8, q_6, q_7, h_9, b_12, b_13, c_14]
   refine goal_call ([av .shr e_10] ++ capsAV caps_f_) (Res.res y_15) (by simp [capsAV, gP, gt, gr, gg, hm_0.copy, hm_0.elem, q_8, q_6, q_7, h_9]) (hc_f_ _ _ _ (e_10, ()) _ (Nat.le_succ d) (fun k hk => by first | rfl | rw [q_7]) (by repeat (first | exact zaf _ | exact hT.up | exact hT | (simp only [q_8, q_6, q_7]; done) | refine Tight.upd ?_ (by simp) (by simp) | refine Tight.killB ?_ | refine zaj ?_)) ⟨_, _, (.inl rfl), rfl, rfl⟩ h_16) ?_
   try simp [gP, gt, gr, gg, hm_0.copy, hm_0.elem, q_8, q_6, q_7, h_9]
   rcases zad hp with ⟨h_17, hp⟩ | ⟨h_17, hp⟩
   ·try simp at h_17
    cases hp
    try simp [gP, gt, gr, gg, hm_0.copy, hm_0.elem, q_8, q_6, q_7, h_9, h_17]
    refine zan ?_
    rw [X_4_]
    exact ⟨_, rfl, by simp [zac, zaa, gP, gt, gr, gg, hm_0.copy, hm_0.elem, q_8, q_6, q_7, h_9, h_17], by simp [zaa, gP, gt, gr, gg, hm_0.copy, hm_0.elem, q_8, q_6, q_7, h_9, h_17]⟩
   ·try simp at h_17
    cases hp
    try simp [gP, gt, gr, gg, hm_0.copy, hm_0.elem, q_8, q_6, q_7, h_9, h_17]
    refine zah ?_
    rw [I_3_]
    exact ⟨by simp [zac, zaa, gP, gt, gr, gg, hm_0.copy, hm_0.elem, q_8, q_6, q_7, h_9, h_17], by simp [zac, gP, gt, gr, gg, hm_0.copy, hm_0.elem, q_8, q_6, q_7, h_9, h_17] <;> first | (intro x x1 x2 hx; have h0 := hl_f_ _ hx; simp at h0; omega) | (intro x hx; have h0 := hl_f_ _ hx; simp at h0; omega), by simp [zaa, gP, gt, gr, gg, hm_0.copy, hm_0.elem, q_8, q_6, q_7, h_9, h_17]⟩
  ·try simp at h_9
   cases hp
   try simp [gP, gt, gr, gg, hm_0.copy, hm_0.elem, q_8, q_6, q_7, h_9]
   refine zak ?_
   rw [X_4_]
   exact ⟨_, rfl, by simp [zaa, gP, gt, gr, gg, hm_0.copy, hm_0.elem, q_8, q_6, q_7, h_9]⟩
 ·intro out hX
  rw [X_4_] at hX
  rcases r_18 with r_18 | r_18
  ·simp only [Sum.elim_inl, Sum.elim_inr] at hX hp
   obtain ⟨σ_20, rfl, q_22, q_21⟩ := hX
   cases hp
   simp [Goal, FnEndI, memKill_hi, gP, gt, gr, gg, hm_0.copy, hm_0.elem, q_22, q_21, hT2]
  ·simp only [Sum.elim_inl, Sum.elim_inr] at hX hp
   obtain ⟨σ_23, rfl, q_24⟩ := hX
   cases hp
   simp [Goal, FnEndI, memKill_hi, gP, gt, gr, gg, hm_0.copy, hm_0.elem, q_24, hT2]

abbrev G91 (g : Cfg) : Prop := Has Tryz.prog g 91 Tryz.f91 [] [] [] []
theorem wI91 {g : Cfg} (G : G91 g) (G_133 : G133 g) {d : Nat} {mem : Mem} (hT : Tight d mem)  {s : (List TEdge)} {f_ : (TEdge → Option (Bool))} {m_0 : Md} (hm_0 : LentM m_0) {fk_f_ : Nat} {caps_f_ : List (Key × Nat)} (hl_f_ : ∀ c ∈ caps_f_, c.1.1 ≤ d) (hc_f_ : Clo g d mem fk_f_ caps_f_ fun x : TEdge × Unit => f_ x.1) {y} (hp : slices_ContainsFunc_Edge s f_ = some y) : callo g d 91 [av m_0 s, .one (.fn fk_f_ caps_f_)] mem = some (Res.res y, mem) := by
 have gP := G.P; have gt := G.tk; have gr := G.ro; have gg := G.gh
 have i_133 := G_133.no
 have hT2 : memKill (fun k => decide (d < k.1)) mem = mem := hT
 refine start_in (Tryz.f91.body.getD .skip) [.tmp 4] G Tryz.func91 (by kernel_rfl) (by simp [Tryz.ntmps91]) rfl ?_
 unfold slices_ContainsFunc_Edge at hp
 obtain ⟨y_1, h_2, hp⟩ := zab hp
 simp [Tryz.f91, gP, gt, gr, gg, i_133, hm_0.copy, hm_0.elem]
 refine goal_call [av m_0 s, .one (.fn fk_f_ caps_f_)] (Res.res y_1) (by simp [gP, gt, gr, gg, i_133, hm_0.copy, hm_0.elem]) (wI133 G_133 (by repeat (first | exact zaf _ | exact hT.up | exact hT | (simp only [true_and]; done) | refine Tight.upd ?_ (by simp) (by simp) | refine Tight.killB ?_ | refine zaj ?_)) hm_0 (fun c hc => Nat.le_succ_of_le (hl_f_ c hc)) (hc_f_.mono (Nat.le_succ d) (fun k hk => rfl)) h_2) ?_
 cases hp
 simp [Goal, FnEndI, memKill_hi, gP, gt, gr, gg, i_133, hm_0.copy, hm_0.elem, hT2]

abbrev G92 (g : Cfg) : Prop := Has Tryz.prog g 92 Tryz.f92 [] [] [(56, C56), (93, C93)] []
theorem wI92 {g : Cfg} (G : G92 g) {d : Nat} {mem : Mem} (hT : Tight d mem) {K_1 : Key} {e : TEdge} {c0 : TProgram} {mk_1 : Md} (hk_1 : K_1.1 ≤ d) (hb_1 : mem K_1 = some [(.l mk_1 c0.vars.length (encL c0.vars)), (.s (.int .i64 c0.points)), (.l mk_1 c0.edges.length (encL c0.edges))]) {y} (hp : impl_IsProgram_1 e c0 = some y) : callo g d 92 [av .shr e, .one (.ptr K_1 0)] mem = some (Res.res y, mem) := by
 have gP := G.P; have gt := G.tk; have gr := G.ro; have gg := G.gh
 have c_56 := G.cs (56, C56) (by simp)
 have c_93 := G.cs (93, C93) (by simp)
 have hT2 : memKill (fun k => decide (d < k.1)) mem = mem := hT
 have hm0 : ∀ t, mem (d + 1, t) = none := fun t => hT.none (by simp)
 have nk_1 : ∀ t, (K_1 = (d + 1, t)) = False := fun t => by simp; intro h; rw [h] at hk_1; simp at hk_1; omega
 refine start_in (Tryz.f92.body.getD .skip) [.tmp 3] G Tryz.func92 (by kernel_rfl) (by simp [Tryz.ntmps92]) rfl ?_
 unfold impl_IsProgram_1 at hp
 obtain ⟨y_1, h_2, hp⟩ := zab hp
 have c_3 := C56_eq h_2
 simp at c_3
 simp [Tryz.f92, gP, gt, gr, gg, hm0, c_56, hb_1, nk_1, c_3]
 rcases zad hp with ⟨h_4, hp⟩ | ⟨h_4, hp⟩
 ·try simp at h_4
  obtain ⟨y_5, h_6, hp⟩ := zab hp
  have c_7 := C56_eq h_6
  simp at c_7
  try simp [gP, gt, gr, gg, hm0, c_56, hb_1, nk_1, h_4, c_7]
  rcases zad hp with ⟨h_8, hp⟩ | ⟨h_8, hp⟩
  ·try simp at h_8
   obtain ⟨y_9, h_10, hp⟩ := zab hp
   have c_11 := C93_eq h_10
   simp at c_11
   cases hp
   simp [Goal, FnEndI, memKill_hi, gP, gt, gr, gg, hm0, c_56, c_93, hb_1, nk_1, h_4, h_8, c_11, hT2]
  ·try simp at h_8
   cases hp
   simp [Goal, FnEndI, memKill_hi, gP, gt, gr, gg, hm0, c_56, c_93, hb_1, nk_1, h_4, h_8, hT2]
 ·try simp at h_4
  cases hp
  simp [Goal, FnEndI, memKill_hi, gP, gt, gr, gg, hm0, c_56, c_93, hb_1, nk_1, h_4, hT2]

def C53 : List AV → Option AV := specP (X := TProgram × Unit) fun x => impl_IsProgram x.1
theorem C53_eq {p_} {y} (h : impl_IsProgram p_ = some y) : C53 [av .shr p_] = some (Res.res y) := zag (x := (p_, ())) h
def g53 : Cfg := { P := Tryz.prog, take := [], keep := [((133, 2), { hd := [0, 1, 7, 8], bx := [], ex := [], rt := [4] })], gho := [], ctx := [(56, C56), (90, C90), (93, C93)] }
@[simp] theorem g53_s : g53.P = Tryz.prog ∧ g53.ctx = [(56, C56), (90, C90), (93, C93)] ∧ Pl0 g53 := by simp [g53]
theorem w53 {p_} {y} (hp : impl_IsProgram p_ = some y) : ∃ m, callo g53 0 53 [av .shr p_] mem0 = some (Res.res y, m) := by
 have G_91 : G91 g53 := ⟨rfl, by kernel_rfl, rfl, fun t => by simp, noAway (fun t => by simp) (by simp) (fun t => by simp), by simp [lookN], fun i => by simp [lookK], by simp [g53, lookK], by simp⟩
 have G_133 : G133 g53 := ⟨rfl, by kernel_rfl, rfl, fun t => by simp, noAway (fun t => by simp) (by simp) (fun t => by simp), by simp [lookN], fun i => by simp [lookK], by simp [g53, lookK], by simp⟩
 have G_92 : G92 g53 := ⟨rfl, by kernel_rfl, rfl, fun t => by simp, noAway (fun t => by simp) (by simp) (fun t => by simp), by simp [lookN], fun i => by simp [lookK], by simp [g53, lookK], by simp⟩
 refine st0 [.tmp 2] Tryz.func53 ?_
 unfold impl_IsProgram at hp
 obtain ⟨y_1, h_2, hp⟩ := zab hp
 have c_3 := C90_eq h_2
 simp at c_3
 simp [Tryz.f53, c_3]
 rcases zad hp with ⟨h_4, hp⟩ | ⟨h_4, hp⟩
 ·try simp at h_4
  obtain ⟨y_5, h_6, hp⟩ := zab hp
  have c_7 := C56_eq h_6
  simp at c_7
  try simp [h_4, c_7]
  rcases zad hp with ⟨h_8, hp⟩ | ⟨h_8, hp⟩
  ·try simp at h_8
   try simp [h_4, h_8]
   rcases zad hp with ⟨h_9, hp⟩ | ⟨h_9, hp⟩
   ·try simp at h_9
    cases hp
    simp [Goal, FnEnd, h_4, h_8, h_9]
   ·try simp at h_9
    obtain ⟨y_10, h_11, hp⟩ := zab hp
    try simp [h_4, h_8, h_9]
    refine goal_call [av .shr p_.edges, .one (.fn 92 [((1, 1), 0)])] (Res.res y_10) (by simp [h_4, h_8, h_9]) (wI91 G_91 G_133 (by repeat (first | exact zaf _ | exact hT.up | exact hT | (simp only [true_and]; done) | refine Tight.upd ?_ (by simp) (by simp) | refine Tight.killB ?_ | refine zaj ?_)) (.inl rfl) (by simp) (clo1 (p := fun x0 => impl_IsProgram_1 x0 p_) fun d2 mem2 m0 x0 r2 hd2 ha2 hT2 hm0 hr2 => wI92 (mk_1 := .shr) G_92 hT2 (show 1 ≤ d2 from hd2) ((ha2 _ (Nat.le_refl _)).trans (by simp [h_4, h_8, h_9])) hr2) h_11) ?_
    cases hp
    simp [Goal, FnEnd, h_4, h_8, h_9]
  ·try simp at h_8
   cases hp
   simp [Goal, FnEnd, h_4, h_8]
 ·try simp at h_4
  cases hp
  simp [Goal, FnEnd, h_4]
theorem pc53 : PC Tryz.prog 53 C53 := pc_of (g := g53) (zai _ g53_s.2.1 ⟨pc56, pc90, pc93, trivial⟩) (ent Tryz.func53) fun x y h => w53 h

def C140 : List AV → Option AV := specP (X := THeap × Int × Unit) fun x => impl_Heap_isCell x.1 x.2.1
theorem C140_eq {h_ n_} {y} (h : impl_Heap_isCell h_ n_ = some y) : C140 [av .shr h_, av .shr n_] = some (Res.res y) := zag (x := (h_, n_, ())) h
def g140 : Cfg := { P := Tryz.prog, take := [], keep := [], gho := [], ctx := [(56, C56)] }
@[simp] theorem g140_s : g140.P = Tryz.prog ∧ g140.ctx = [(56, C56)] ∧ Pl0 g140 := by simp [g140]
theorem w140 {h_ n_} {y} (hp : impl_Heap_isCell h_ n_ = some y) : ∃ m, callo g140 0 140 [av .shr h_, av .shr n_] mem0 = some (Res.res y, m) := by
 refine st0 [.tmp 4] Tryz.func140 ?_
 unfold impl_Heap_isCell at hp
 obtain ⟨y_1, h_2, hp⟩ := zab hp
 have c_3 := C56_eq h_2
 simp at c_3
 cases hp
 simp [Tryz.f140, Goal, FnEnd, c_3]
theorem pc140 : PC Tryz.prog 140 C140 := pc_of (g := g140) (zai _ g140_s.2.1 ⟨pc56, trivial⟩) (ent Tryz.func140) fun x y h => w140 h

abbrev G154 (g : Cfg) : Prop := Has Tryz.prog g 154 Tryz.f154 [] [(2, { hd := [0, 1, 7, 8], bx := [], ex := [], rt := [4] })] [] []
theorem wI154 {g : Cfg} (G : G154 g) {d : Nat} {mem : Mem} (hT : Tight d mem)  {s : (List Int)} {f_ : (Int → Option (Bool))} {m_0 : Md} (hm_0 : LentM m_0) {fk_f_ : Nat} {caps_f_ : List (Key × Nat)} (hl_f_ : ∀ c ∈ caps_f_, c.1.1 ≤ d) (hc_f_ : Clo g d mem fk_f_ caps_f_ fun x : Int × Unit => f_ x.1) {y} (hp : slices_IndexFunc_int s f_ = some y) : callo g d 154 [av m_0 s, .one (.fn fk_f_ caps_f_)] mem = some (Res.res y, mem) := by
 have gP := G.P; have gt := G.tk; have gr := G.ro; have gg := G.gh
 have k_2 := G.kp (2, { hd := [0, 1, 7, 8], bx := [], ex := [], rt := [4] }) (by simp)
 have hT2 : memKill (fun k => decide (d < k.1)) mem = mem := hT
 refine start_in (Tryz.f154.body.getD .skip) [.tmp 4] G Tryz.func154 (by kernel_rfl) (by simp [Tryz.ntmps154]) rfl ?_
 unfold slices_IndexFunc_int at hp
 simp [Tryz.f154, gP, gt, gr, gg, hm_0.copy, hm_0.elem]
 obtain ⟨r_18, h_19, hp⟩ := zab hp
 obtain ⟨I_3, I_3_⟩ := exV fun (s_1 : Int) (σ : St) => (σ.env 0 = uL m_0 s ∧ σ.env 7 = uI (s.length : Int) ∧ σ.env 8 = uI s_1) ∧ σ.env 1 = .one (.fn fk_f_ caps_f_) ∧ σ.mem = mem
 obtain ⟨X_4, X_4_⟩ := exV fun (r_18 : (Int) ⊕ (Unit)) (out : Out) => Sum.elim (fun r_18 => ∃ σ : St, out = .ret σ ∧ σ.env 4 = uI r_18 ∧ σ.mem = mem) (fun r_18 => ∃ σ : St, out = .exit 0 σ ∧ σ.mem = mem) r_18
 refine loopP ({ hd := [0, 1, 7, 8], bx := [], ex := [], rt := [4] }) I_3 X_4 h_19 (by exact k_2) ?_ ?_ ?_
 ·rw [I_3_]
  exact ⟨by simp [zac, zaa, gP, gt, gr, gg, hm_0.copy, hm_0.elem], by simp [zac, gP, gt, gr, gg, hm_0.copy, hm_0.elem] <;> first | (intro x x1 x2 hx; have h0 := hl_f_ _ hx; simp at h0; omega) | (intro x hx; have h0 := hl_f_ _ hx; simp at h0; omega), by simp [zaa, gP, gt, gr, gg, hm_0.copy, hm_0.elem]⟩
 ·intro s_1 σ_5 a_2 hI hp
  rw [I_3_] at hI
  obtain ⟨q_8, q_6, q_7⟩ := hI
  try simp [gP, gt, gr, gg, hm_0.copy, hm_0.elem, q_8, q_6, q_7]
  rcases zad hp with ⟨h_9, hp⟩ | ⟨h_9, hp⟩
  ·try simp at h_9
   obtain ⟨e_10, h_11, hp⟩ := zab hp
   have b_12 := at_lo h_11
   have b_13 := at_hi h_11
   try simp at b_12 b_13
   have c_14 := seg_at' h_11 0 1 (by decide) (ds := [.sc (.int .i64 e_10)]) rfl
   try simp at c_14
   obtain ⟨y_15, h_16, hp⟩ := zab hp
   try simp [gP, gt, gr, gg, hm_0.copy, hm_0.elem, q_8, q_6, q_7, h_9, b_12, b_13, c_14]
   refine goal_call ([av .shr e_10] ++ capsAV caps_f_) (Res.res y_15) (by simp [capsAV, gP, gt, gr, gg, hm_0.copy, hm_0.elem, q_8, q_6, q_7, h_9]) (hc_f_ _ _ _ (e_10, ()) _ (Nat.le_succ d) (fun k hk => by first | rfl | rw [q_7]) (by repeat (first | exact zaf _ | exact hT.up | exact hT | (simp only [q_8, q_6, q_7]; done) | refine Tight.upd ?_ (by simp) (by simp) | refine Tight.killB ?_ | refine zaj ?_)) ⟨_, _, (.inl rfl), rfl, rfl⟩ h_16) ?_
   try simp [gP, gt, gr, gg, hm_0.copy, hm_0.elem, q_8, q_6, q_7, h_9]
   rcases zad hp with ⟨h_17, hp⟩ | ⟨h_17, hp⟩
   ·try simp at h_17
    cases hp
    try simp [gP, gt, gr, gg, hm_0.copy, hm_0.elem, q_8, q_6, q_7, h_9, h_17]
    refine zan ?_
    rw [X_4_]
    exact ⟨_, rfl, by simp [zac, zaa, gP, gt, gr, gg, hm_0.copy, hm_0.elem, q_8, q_6, q_7, h_9, h_17], by simp [zaa, gP, gt, gr, gg, hm_0.copy, hm_0.elem, q_8, q_6, q_7, h_9, h_17]⟩
   ·try simp at h_17
    cases hp
    try simp [gP, gt, gr, gg, hm_0.copy, hm_0.elem, q_8, q_6, q_7, h_9, h_17]
    refine zah ?_
    rw [I_3_]
    exact ⟨by simp [zac, zaa, gP, gt, gr, gg, hm_0.copy, hm_0.elem, q_8, q_6, q_7, h_9, h_17], by simp [zac, gP, gt, gr, gg, hm_0.copy, hm_0.elem, q_8, q_6, q_7, h_9, h_17] <;> first | (intro x x1 x2 hx; have h0 := hl_f_ _ hx; simp at h0; omega) | (intro x hx; have h0 := hl_f_ _ hx; simp at h0; omega), by simp [zaa, gP, gt, gr, gg, hm_0.copy, hm_0.elem, q_8, q_6, q_7, h_9, h_17]⟩
  ·try simp at h_9
   cases hp
   try simp [gP, gt, gr, gg, hm_0.copy, hm_0.elem, q_8, q_6, q_7, h_9]
   refine zak ?_
   rw [X_4_]
   exact ⟨_, rfl, by simp [zaa, gP, gt, gr, gg, hm_0.copy, hm_0.elem, q_8, q_6, q_7, h_9]⟩
 ·intro out hX
  rw [X_4_] at hX
  rcases r_18 with r_18 | r_18
  ·simp only [Sum.elim_inl, Sum.elim_inr] at hX hp
   obtain ⟨σ_20, rfl, q_22, q_21⟩ := hX
   cases hp
   simp [Goal, FnEndI, memKill_hi, gP, gt, gr, gg, hm_0.copy, hm_0.elem, q_22, q_21, hT2]
  ·simp only [Sum.elim_inl, Sum.elim_inr] at hX hp
   obtain ⟨σ_23, rfl, q_24⟩ := hX
   cases hp
   simp [Goal, FnEndI, memKill_hi, gP, gt, gr, gg, hm_0.copy, hm_0.elem, q_24, hT2]

abbrev G137 (g : Cfg) : Prop := Has Tryz.prog g 137 Tryz.f137 [] [] [] []
theorem wI137 {g : Cfg} (G : G137 g) (G_154 : G154 g) {d : Nat} {mem : Mem} (hT : Tight d mem)  {s : (List Int)} {f_ : (Int → Option (Bool))} {m_0 : Md} (hm_0 : LentM m_0) {fk_f_ : Nat} {caps_f_ : List (Key × Nat)} (hl_f_ : ∀ c ∈ caps_f_, c.1.1 ≤ d) (hc_f_ : Clo g d mem fk_f_ caps_f_ fun x : Int × Unit => f_ x.1) {y} (hp : slices_ContainsFunc_int s f_ = some y) : callo g d 137 [av m_0 s, .one (.fn fk_f_ caps_f_)] mem = some (Res.res y, mem) := by
 have gP := G.P; have gt := G.tk; have gr := G.ro; have gg := G.gh
 have i_154 := G_154.no
 have hT2 : memKill (fun k => decide (d < k.1)) mem = mem := hT
 refine start_in (Tryz.f137.body.getD .skip) [.tmp 4] G Tryz.func137 (by kernel_rfl) (by simp [Tryz.ntmps137]) rfl ?_
 unfold slices_ContainsFunc_int at hp
 obtain ⟨y_1, h_2, hp⟩ := zab hp
 simp [Tryz.f137, gP, gt, gr, gg, i_154, hm_0.copy, hm_0.elem]
 refine goal_call [av m_0 s, .one (.fn fk_f_ caps_f_)] (Res.res y_1) (by simp [gP, gt, gr, gg, i_154, hm_0.copy, hm_0.elem]) (wI154 G_154 (by repeat (first | exact zaf _ | exact hT.up | exact hT | (simp only [true_and]; done) | refine Tight.upd ?_ (by simp) (by simp) | refine Tight.killB ?_ | refine zaj ?_)) hm_0 (fun c hc => Nat.le_succ_of_le (hl_f_ c hc)) (hc_f_.mono (Nat.le_succ d) (fun k hk => rfl)) h_2) ?_
 cases hp
 simp [Goal, FnEndI, memKill_hi, gP, gt, gr, gg, i_154, hm_0.copy, hm_0.elem, hT2]

abbrev G139 (g : Cfg) : Prop := Has Tryz.prog g 139 Tryz.f139 [] [] [(140, C140)] []
theorem wI139 {g : Cfg} (G : G139 g) {d : Nat} {mem : Mem} (hT : Tight d mem) {K_1 : Key} {n_ : Int} {c0 : THeap} {mk_1 : Md} (hk_1 : K_1.1 ≤ d) (hb_1 : mem K_1 = some [(.l mk_1 c0.vars.length (encL c0.vars)), (.l mk_1 c0.next.length (encL c0.next))]) {y} (hp : impl_Heap_areCells_1 n_ c0 = some y) : callo g d 139 [av .shr n_, .one (.ptr K_1 0)] mem = some (Res.res y, mem) := by
 have gP := G.P; have gt := G.tk; have gr := G.ro; have gg := G.gh
 have c_140 := G.cs (140, C140) (by simp)
 have hT2 : memKill (fun k => decide (d < k.1)) mem = mem := hT
 have nk_1 : ∀ t, (K_1 = (d + 1, t)) = False := fun t => by simp; intro h; rw [h] at hk_1; simp at hk_1; omega
 refine start_in (Tryz.f139.body.getD .skip) [.tmp 3] G Tryz.func139 (by kernel_rfl) (by simp [Tryz.ntmps139]) rfl ?_
 unfold impl_Heap_areCells_1 at hp
 simp [Tryz.f139, gP, gt, gr, gg, hb_1, nk_1]
 rcases zad hp with ⟨h_1, hp⟩ | ⟨h_1, hp⟩
 ·try simp at h_1
  obtain ⟨y_2, h_3, hp⟩ := zab hp
  have c_4 := C140_eq h_3
  simp at c_4
  cases hp
  simp [Goal, FnEndI, memKill_hi, gP, gt, gr, gg, c_140, hb_1, nk_1, h_1, c_4, hT2]
 ·try simp at h_1
  cases hp
  simp [Goal, FnEndI, memKill_hi, gP, gt, gr, gg, c_140, hb_1, nk_1, h_1, hT2]

def C94 : List AV → Option AV := specP (X := THeap × Unit) fun x => impl_Heap_areCells x.1
theorem C94_eq {h_} {y} (h : impl_Heap_areCells h_ = some y) : C94 [av .shr h_] = some (Res.res y) := zag (x := (h_, ())) h
def g94 : Cfg := { P := Tryz.prog, take := [], keep := [((154, 2), { hd := [0, 1, 7, 8], bx := [], ex := [], rt := [4] })], gho := [], ctx := [(138, C138), (140, C140)] }
@[simp] theorem g94_s : g94.P = Tryz.prog ∧ g94.ctx = [(138, C138), (140, C140)] ∧ Pl0 g94 := by simp [g94]
theorem w94 {h_} {y} (hp : impl_Heap_areCells h_ = some y) : ∃ m, callo g94 0 94 [av .shr h_] mem0 = some (Res.res y, m) := by
 have G_137 : G137 g94 := ⟨rfl, by kernel_rfl, rfl, fun t => by simp, noAway (fun t => by simp) (by simp) (fun t => by simp), by simp [lookN], fun i => by simp [lookK], by simp [g94, lookK], by simp⟩
 have G_154 : G154 g94 := ⟨rfl, by kernel_rfl, rfl, fun t => by simp, noAway (fun t => by simp) (by simp) (fun t => by simp), by simp [lookN], fun i => by simp [lookK], by simp [g94, lookK], by simp⟩
 have G_139 : G139 g94 := ⟨rfl, by kernel_rfl, rfl, fun t => by simp, noAway (fun t => by simp) (by simp) (fun t => by simp), by simp [lookN], fun i => by simp [lookK], by simp [g94, lookK], by simp⟩
 refine st0 [.tmp 2] Tryz.func94 ?_
 unfold impl_Heap_areCells at hp
 obtain ⟨y_1, h_2, hp⟩ := zab hp
 have c_3 := C138_eq h_2
 simp at c_3
 obtain ⟨y_4, h_5, hp⟩ := zab hp
 simp [Tryz.f94, c_3]
 refine goal_call [av .bor y_1, .one (.fn 139 [((1, 1), 0)])] (Res.res y_4) (by simp) (wI137 G_137 G_154 (by repeat (first | exact zaf _ | exact hT.up | exact hT | (simp only [true_and]; done) | refine Tight.upd ?_ (by simp) (by simp) | refine Tight.killB ?_ | refine zaj ?_)) (.inr rfl) (by simp) (clo1 (p := fun x0 => impl_Heap_areCells_1 x0 h_) fun d2 mem2 m0 x0 r2 hd2 ha2 hT2 hm0 hr2 => wI139 (mk_1 := .shr) G_139 hT2 (show 1 ≤ d2 from hd2) ((ha2 _ (Nat.le_refl _)).trans (by simp [c_3])) hr2) h_5) ?_
 cases hp
 simp [Goal, FnEnd]
theorem pc94 : PC Tryz.prog 94 C94 := pc_of (g := g94) (zai _ g94_s.2.1 ⟨pc138, pc140, trivial⟩) (ent Tryz.func94) fun x y h => w94 h

def C142 : List AV → Option AV := specP (X := (List Int) × Int × Unit) fun x => slices_Index_int x.1 x.2.1
theorem C142_eq {s v} {y} (h : slices_Index_int s v = some y) : C142 [av .shr s, av .shr v] = some (Res.res y) := zag (x := (s, v, ())) h
def g142 : Cfg := { P := Tryz.prog, take := [], keep := [((142, 2), { hd := [0, 1, 7, 8], bx := [], ex := [], rt := [4] })], gho := [], ctx := [] }
@[simp] theorem g142_s : g142.P = Tryz.prog ∧ g142.ctx = [] ∧ Pl0 g142 := by simp [g142]
theorem w142 {s v} {y} (hp : slices_Index_int s v = some y) : ∃ m, callo g142 0 142 [av .shr s, av .shr v] mem0 = some (Res.res y, m) := by
 refine st0 [.tmp 4] Tryz.func142 ?_
 unfold slices_Index_int at hp
 simp [Tryz.f142]
 obtain ⟨r_15, h_16, hp⟩ := zab hp
 obtain ⟨I_3, I_3_⟩ := exV fun (s_1 : Int) (σ : St) => (σ.env 0 = uL .shr s ∧ σ.env 1 = uI v ∧ σ.env 7 = uI (s.length : Int) ∧ σ.env 8 = uI s_1) ∧ σ.mem = mem0
 obtain ⟨X_4, X_4_⟩ := exV fun (r_15 : (Int) ⊕ (Unit)) (out : Out) => Sum.elim (fun r_15 => ∃ σ : St, out = .ret σ ∧ σ.env 4 = uI r_15 ∧ σ.mem = mem0) (fun r_15 => ∃ σ : St, out = .exit 0 σ ∧ σ.mem = mem0) r_15
 refine loopP ({ hd := [0, 1, 7, 8], bx := [], ex := [], rt := [4] }) I_3 X_4 h_16 (by exact rfl) ?_ ?_ ?_
 ·rw [I_3_]
  exact ⟨by simp [zac, zaa], by simp [zaa]⟩
 ·intro s_1 σ_5 a_2 hI hp
  rw [I_3_] at hI
  obtain ⟨q_7, q_6⟩ := hI
  try simp [q_7, q_6]
  rcases zad hp with ⟨h_8, hp⟩ | ⟨h_8, hp⟩
  ·try simp at h_8
   obtain ⟨e_9, h_10, hp⟩ := zab hp
   have b_11 := at_lo h_10
   have b_12 := at_hi h_10
   try simp at b_11 b_12
   have c_13 := seg_at' h_10 0 1 (by decide) (ds := [.sc (.int .i64 e_9)]) rfl
   try simp at c_13
   try simp [q_7, q_6, h_8, b_11, b_12, c_13]
   rcases zad hp with ⟨h_14, hp⟩ | ⟨h_14, hp⟩
   ·try simp at h_14
    cases hp
    try simp [q_7, q_6, h_8, h_14]
    refine zan ?_
    rw [X_4_]
    exact ⟨_, rfl, by simp [zac, zaa, q_7, q_6, h_8, h_14], by simp [zaa, q_7, q_6, h_8, h_14]⟩
   ·try simp at h_14
    cases hp
    try simp [q_7, q_6, h_8, h_14]
    refine zah ?_
    rw [I_3_]
    exact ⟨by simp [zac, zaa, q_7, q_6, h_8, h_14], by simp [zaa, q_7, q_6, h_8, h_14]⟩
  ·try simp at h_8
   cases hp
   try simp [q_7, q_6, h_8]
   refine zak ?_
   rw [X_4_]
   exact ⟨_, rfl, by simp [zaa, q_7, q_6, h_8]⟩
 ·intro out hX
  rw [X_4_] at hX
  rcases r_15 with r_15 | r_15
  ·simp only [Sum.elim_inl, Sum.elim_inr] at hX hp
   obtain ⟨σ_17, rfl, q_19, q_18⟩ := hX
   cases hp
   simp [Goal, FnEnd, q_19, q_18]
  ·simp only [Sum.elim_inl, Sum.elim_inr] at hX hp
   obtain ⟨σ_20, rfl, q_21⟩ := hX
   cases hp
   simp [Goal, FnEnd, q_21]
theorem pc142 : PC Tryz.prog 142 C142 := pc_of (g := g142) (zai [] rfl trivial) (ent Tryz.func142) fun x y h => w142 h

def C104 : List AV → Option AV := specP (X := (List Int) × Int × Unit) fun x => zal x.1 x.2.1
theorem C104_eq {s v} {y} (h : zal s v = some y) : C104 [av .shr s, av .shr v] = some (Res.res y) := zag (x := (s, v, ())) h
def g104 : Cfg := { P := Tryz.prog, take := [], keep := [], gho := [], ctx := [(142, C142)] }
@[simp] theorem g104_s : g104.P = Tryz.prog ∧ g104.ctx = [(142, C142)] ∧ Pl0 g104 := by simp [g104]
theorem w104 {s v} {y} (hp : zal s v = some y) : ∃ m, callo g104 0 104 [av .shr s, av .shr v] mem0 = some (Res.res y, m) := by
 refine st0 [.tmp 4] Tryz.func104 ?_
 unfold zal at hp
 obtain ⟨y_1, h_2, hp⟩ := zab hp
 have c_3 := C142_eq h_2
 simp at c_3
 cases hp
 simp [Tryz.f104, Goal, FnEnd, c_3]
theorem pc104 : PC Tryz.prog 104 C104 := pc_of (g := g104) (zai _ g104_s.2.1 ⟨pc142, trivial⟩) (ent Tryz.func104) fun x y h => w104 h

def C105 : List AV → Option AV := specP (X := THeap × Int × Unit) fun x => impl_Followed x.1 x.2.1
theorem C105_eq {h_ cell} {y} (h : impl_Followed h_ cell = some y) : C105 [av .shr h_, av .shr cell] = some (Res.res y) := zag (x := (h_, cell, ())) h
def g105 : Cfg := { P := Tryz.prog, take := [(105, 27), (105, 31)], keep := [((105, 3), { hd := [1, 2, 5, 6], bx := [], ex := [5], rt := [4] })], gho := [], ctx := [(104, C104), (140, C140)] }
@[simp] theorem g105_s : g105.P = Tryz.prog ∧ g105.ctx = [(104, C104), (140, C140)] ∧ Pl1 g105 ∧ g105.take = [(105, 27), (105, 31)] := by simp [g105]
theorem w105 {h_ cell} {y} (hp : impl_Followed h_ cell = some y) : ∃ m, callo g105 0 105 [av .shr h_, av .shr cell] mem0 = some (Res.res y, m) := by
 refine st0 [.tmp 4] Tryz.func105 ?_
 unfold impl_Followed at hp
 simp [Tryz.f105]
 obtain ⟨r_40, h_41, hp⟩ := zab hp
 obtain ⟨I_3, I_3_⟩ := exV fun (s_1 : (List Int) × Int) (σ : St) => (σ.env 1 = uI cell ∧ σ.env 2 = uP (1, 2) ∧ σ.env 5 = uL .own s_1.1 ∧ σ.env 6 = uI s_1.2 ∧ σ.mem (1, 2) = some [(.l .shr h_.vars.length (encL h_.vars)), (.l .shr h_.next.length (encL h_.next))]) ∧ NoBox [(1, 2)] σ.mem
 obtain ⟨X_4, X_4_⟩ := exV fun (r_40 : ((List Int)) ⊕ (Unit)) (out : Out) => Sum.elim (fun r_40 => ∃ σ : St, out = .exit 0 σ ∧ (σ.env 5 = uL .own r_40 ∧ σ.mem (1, 2) = some [(.l .shr h_.vars.length (encL h_.vars)), (.l .shr h_.next.length (encL h_.next))]) ∧ NoBox [(1, 2)] σ.mem) (fun r_40 => ∃ σ : St, out = .ret σ ∧ (σ.env 4 = .one (.l .own 0 []) ∧ σ.mem (1, 2) = some [(.l .shr h_.vars.length (encL h_.vars)), (.l .shr h_.next.length (encL h_.next))]) ∧ NoBox [(1, 2)] σ.mem) r_40
 refine loopP ({ hd := [1, 2, 5, 6], bx := [], ex := [5], rt := [4] }) I_3 X_4 h_41 (by exact rfl) ?_ ?_ ?_
 ·rw [I_3_]
  exact ⟨by simp [zac, zaa], NoBox.restrict (by intro k hk hb; simp at hk hb; simp [hk, hb])⟩
 ·intro s_1 σ_5 a_2 hI hp
  rw [I_3_] at hI
  obtain ⟨q_7, hn_6⟩ := hI
  try simp [q_7]
  rcases zad hp with ⟨h_8, hp⟩ | ⟨h_8, hp⟩
  ·try simp at h_8
   obtain ⟨y_9, h_10, hp⟩ := zab hp
   have c_11 := C140_eq h_10
   simp at c_11
   try simp [q_7, h_8, c_11]
   rcases zad hp with ⟨h_12, hp⟩ | ⟨h_12, hp⟩
   ·try simp at h_12
    obtain ⟨y_13, h_14, hp⟩ := zab hp
    have c_15 := C104_eq h_14
    simp at c_15
    try simp [q_7, h_8, h_12, c_15]
    rcases zad hp with ⟨h_16, hp⟩ | ⟨h_16, hp⟩
    ·try simp at h_16
     cases hp
     try simp [q_7, h_8, h_12, h_16]
     refine zak ?_
     rw [X_4_]
     exact ⟨_, rfl, by simp [zac, zaa, q_7, h_8, h_12, h_16], NoBox.restrict (by intro k hk hb; simp at hk hb; simp [hk, hb, q_7, h_8, h_12, h_16, hn_6 k (by simp [hk, hb])])⟩
    ·try simp at h_16
     obtain ⟨_, h_17, hp⟩ := zab hp
     have b_18 := room_ok h_17
     try simp at b_18
     obtain ⟨e_19, h_20, hp⟩ := zab hp
     have b_21 := at_lo h_20
     have b_22 := at_hi h_20
     try simp at b_21 b_22
     have c_23 := seg_at' h_20 0 1 (by decide) (ds := [.sc (.int .i64 e_19)]) rfl
     try simp at c_23
     cases hp
     try simp [q_7, h_8, h_12, h_16, b_18, b_21, b_22, c_23]
     refine zah ?_
     rw [I_3_]
     exact ⟨by simp [zac, zaa, q_7, h_8, h_12, h_16, b_18, b_21, b_22, c_23], NoBox.restrict (by intro k hk hb; simp at hk hb; simp [hk, hb, q_7, h_8, h_12, h_16, b_18, b_21, b_22, c_23, hn_6 k (by simp [hk, hb])])⟩
   ·try simp at h_12
    cases hp
    try simp [q_7, h_8, h_12]
    refine zan ?_
    rw [X_4_]
    exact ⟨_, rfl, by simp [zac, zaa, q_7, h_8, h_12], NoBox.restrict (by intro k hk hb; simp at hk hb; simp [hk, hb, q_7, h_8, h_12, hn_6 k (by simp [hk, hb])])⟩
  ·try simp at h_8
   try simp [q_7, h_8]
   rcases zad hp with ⟨h_24, hp⟩ | ⟨h_24, hp⟩
   ·try simp at h_24
    obtain ⟨y_25, h_26, hp⟩ := zab hp
    have c_27 := C140_eq h_26
    simp at c_27
    try simp [q_7, h_8, h_24, c_27]
    rcases zad hp with ⟨h_28, hp⟩ | ⟨h_28, hp⟩
    ·try simp at h_28
     obtain ⟨y_29, h_30, hp⟩ := zab hp
     have c_31 := C104_eq h_30
     simp at c_31
     try simp [q_7, h_8, h_24, h_28, c_31]
     rcases zad hp with ⟨h_32, hp⟩ | ⟨h_32, hp⟩
     ·try simp at h_32
      cases hp
      try simp [q_7, h_8, h_24, h_28, h_32]
      refine zak ?_
      rw [X_4_]
      exact ⟨_, rfl, by simp [zac, zaa, q_7, h_8, h_24, h_28, h_32], NoBox.restrict (by intro k hk hb; simp at hk hb; simp [hk, hb, q_7, h_8, h_24, h_28, h_32, hn_6 k (by simp [hk, hb])])⟩
     ·try simp at h_32
      obtain ⟨_, h_33, hp⟩ := zab hp
      have b_34 := room_ok h_33
      try simp at b_34
      obtain ⟨e_35, h_36, hp⟩ := zab hp
      have b_37 := at_lo h_36
      have b_38 := at_hi h_36
      try simp at b_37 b_38
      have c_39 := seg_at' h_36 0 1 (by decide) (ds := [.sc (.int .i64 e_35)]) rfl
      try simp at c_39
      cases hp
      try simp [q_7, h_8, h_24, h_28, h_32, b_34, b_37, b_38, c_39]
      refine zah ?_
      rw [I_3_]
      exact ⟨by simp [zac, zaa, q_7, h_8, h_24, h_28, h_32, b_34, b_37, b_38, c_39], NoBox.restrict (by intro k hk hb; simp at hk hb; simp [hk, hb, q_7, h_8, h_24, h_28, h_32, b_34, b_37, b_38, c_39, hn_6 k (by simp [hk, hb])])⟩
    ·try simp at h_28
     cases hp
     try simp [q_7, h_8, h_24, h_28]
     refine zan ?_
     rw [X_4_]
     exact ⟨_, rfl, by simp [zac, zaa, q_7, h_8, h_24, h_28], NoBox.restrict (by intro k hk hb; simp at hk hb; simp [hk, hb, q_7, h_8, h_24, h_28, hn_6 k (by simp [hk, hb])])⟩
   ·try simp at h_24
    cases hp
    try simp [q_7, h_8, h_24]
    refine zak ?_
    rw [X_4_]
    exact ⟨_, rfl, by simp [zac, zaa, q_7, h_8, h_24], NoBox.restrict (by intro k hk hb; simp at hk hb; simp [hk, hb, q_7, h_8, h_24, hn_6 k (by simp [hk, hb])])⟩
 ·intro out hX
  rw [X_4_] at hX
  rcases r_40 with r_40 | r_40
  ·simp only [Sum.elim_inl, Sum.elim_inr] at hX hp
   obtain ⟨σ_42, rfl, q_44, hn_43⟩ := hX
   cases hp
   simp [Goal, FnEnd, q_44]
  ·simp only [Sum.elim_inl, Sum.elim_inr] at hX hp
   obtain ⟨σ_45, rfl, q_47, hn_46⟩ := hX
   cases hp
   simp [Goal, FnEnd, q_47]
theorem pc105 : PC Tryz.prog 105 C105 := pc_of (g := g105) (zai _ g105_s.2.1 ⟨pc104, pc140, trivial⟩) (ent Tryz.func105) fun x y h => w105 h

def C95 : List AV → Option AV := specP (X := THeap × Unit) fun x => impl_Heap_isCyclic x.1
theorem C95_eq {h_} {y} (h : impl_Heap_isCyclic h_ = some y) : C95 [av .shr h_] = some (Res.res y) := zag (x := (h_, ())) h
def g95 : Cfg := { P := Tryz.prog, take := [], keep := [((95, 2), { hd := [1, 6, 7], bx := [], ex := [], rt := [2] })], gho := [], ctx := [(104, C104), (105, C105)] }
@[simp] theorem g95_s : g95.P = Tryz.prog ∧ g95.ctx = [(104, C104), (105, C105)] ∧ Pl0 g95 := by simp [g95]
theorem w95 {h_} {y} (hp : impl_Heap_isCyclic h_ = some y) : ∃ m, callo g95 0 95 [av .shr h_] mem0 = some (Res.res y, m) := by
 refine st0 [.tmp 2] Tryz.func95 ?_
 unfold impl_Heap_isCyclic at hp
 simp [Tryz.f95]
 obtain ⟨r_21, h_22, hp⟩ := zab hp
 obtain ⟨I_3, I_3_⟩ := exV fun (s_1 : Int) (σ : St) => (σ.env 1 = uP (1, 1) ∧ σ.env 6 = uI (h_.next.length : Int) ∧ σ.env 7 = uI s_1 ∧ σ.mem (1, 1) = some [(.l .shr h_.vars.length (encL h_.vars)), (.l .shr h_.next.length (encL h_.next))]) ∧ NoBox [(1, 1)] σ.mem
 obtain ⟨X_4, X_4_⟩ := exV fun (r_21 : (Bool) ⊕ (Unit)) (out : Out) => Sum.elim (fun r_21 => ∃ σ : St, out = .ret σ ∧ (σ.env 2 = uB r_21 ∧ σ.mem (1, 1) = some [(.l .shr h_.vars.length (encL h_.vars)), (.l .shr h_.next.length (encL h_.next))]) ∧ NoBox [(1, 1)] σ.mem) (fun r_21 => ∃ σ : St, out = .exit 0 σ ∧ σ.mem (1, 1) = some [(.l .shr h_.vars.length (encL h_.vars)), (.l .shr h_.next.length (encL h_.next))] ∧ NoBox [(1, 1)] σ.mem) r_21
 refine loopP ({ hd := [1, 6, 7], bx := [], ex := [], rt := [2] }) I_3 X_4 h_22 (by exact rfl) ?_ ?_ ?_
 ·rw [I_3_]
  exact ⟨by simp [zac, zaa], NoBox.restrict (by intro k hk hb; simp at hk hb; simp [hk, hb])⟩
 ·intro s_1 σ_5 a_2 hI hp
  rw [I_3_] at hI
  obtain ⟨q_7, hn_6⟩ := hI
  try simp [q_7]
  rcases zad hp with ⟨h_8, hp⟩ | ⟨h_8, hp⟩
  ·try simp at h_8
   obtain ⟨e_9, h_10, hp⟩ := zab hp
   have b_11 := at_lo h_10
   have b_12 := at_hi h_10
   try simp at b_11 b_12
   have c_13 := seg_at' h_10 0 1 (by decide) (ds := [.sc (.int .i64 e_9)]) rfl
   try simp at c_13
   obtain ⟨y_14, h_15, hp⟩ := zab hp
   have c_16 := C105_eq h_15
   simp at c_16
   obtain ⟨y_17, h_18, hp⟩ := zab hp
   have c_19 := C104_eq h_18
   simp at c_19
   try simp [q_7, h_8, b_11, b_12, c_13, c_16, c_19]
   rcases zad hp with ⟨h_20, hp⟩ | ⟨h_20, hp⟩
   ·try simp at h_20
    cases hp
    try simp [q_7, h_8, h_20]
    refine zan ?_
    rw [X_4_]
    exact ⟨_, rfl, by simp [zac, zaa, q_7, h_8, h_20], NoBox.restrict (by intro k hk hb; simp at hk hb; simp [hk, hb, q_7, h_8, h_20, hn_6 k (by simp [hk, hb])])⟩
   ·try simp at h_20
    cases hp
    try simp [q_7, h_8, h_20]
    refine zah ?_
    rw [I_3_]
    exact ⟨by simp [zac, zaa, q_7, h_8, h_20], NoBox.restrict (by intro k hk hb; simp at hk hb; simp [hk, hb, q_7, h_8, h_20, hn_6 k (by simp [hk, hb])])⟩
  ·try simp at h_8
   cases hp
   try simp [q_7, h_8]
   refine zak ?_
   rw [X_4_]
   exact ⟨_, rfl, by simp [zac, zaa, q_7, h_8], NoBox.restrict (by intro k hk hb; simp at hk hb; simp [hk, hb, q_7, h_8, hn_6 k (by simp [hk, hb])])⟩
 ·intro out hX
  rw [X_4_] at hX
  rcases r_21 with r_21 | r_21
  ·simp only [Sum.elim_inl, Sum.elim_inr] at hX hp
   obtain ⟨σ_23, rfl, q_25, hn_24⟩ := hX
   cases hp
   simp [Goal, FnEnd, q_25]
  ·simp only [Sum.elim_inl, Sum.elim_inr] at hX hp
   obtain ⟨σ_26, rfl, q_28, hn_27⟩ := hX
   cases hp
   simp [Goal, FnEnd, q_28]
theorem pc95 : PC Tryz.prog 95 C95 := pc_of (g := g95) (zai _ g95_s.2.1 ⟨pc104, pc105, trivial⟩) (ent Tryz.func95) fun x y h => w95 h

def C96 : List AV → Option AV := specP (X := THeap × Unit) fun x => impl_Heap_met x.1
theorem C96_eq {h_} {y} (h : impl_Heap_met h_ = some y) : C96 [av .shr h_] = some (Res.res y) := zag (x := (h_, ())) h
def g96 : Cfg := { P := Tryz.prog, take := [(96, 28), (96, 34)], keep := [((96, 3), { hd := [1, 3, 10, 11, 12], bx := [], ex := [3], rt := [2] }), ((96, 6), { hd := [1, 3, 10, 11, 12, 18, 19, 20], bx := [], ex := [1, 3, 10, 11, 12], rt := [2] })], gho := [], ctx := [(104, C104), (105, C105)] }
@[simp] theorem g96_s : g96.P = Tryz.prog ∧ g96.ctx = [(104, C104), (105, C105)] ∧ Pl1 g96 ∧ g96.take = [(96, 28), (96, 34)] := by simp [g96]
theorem w96 {h_} {y} (hp : impl_Heap_met h_ = some y) : ∃ m, callo g96 0 96 [av .shr h_] mem0 = some (Res.res y, m) := by
 refine st0 [.tmp 2] Tryz.func96 ?_
 unfold impl_Heap_met at hp
 simp [Tryz.f96]
 obtain ⟨r_41, h_42, hp⟩ := zab hp
 obtain ⟨I_3, I_3_⟩ := exV fun (s_1 : (List Int) × Int) (σ : St) => (σ.env 1 = uP (1, 1) ∧ σ.env 3 = uL .own s_1.1 ∧ σ.env 10 = uL .shr h_.vars ∧ σ.env 11 = uI (h_.vars.length : Int) ∧ σ.env 12 = uI s_1.2 ∧ σ.mem (1, 1) = some [(.l .shr h_.vars.length (encL h_.vars)), (.l .shr h_.next.length (encL h_.next))]) ∧ NoBox [(1, 1)] σ.mem
 obtain ⟨X_4, X_4_⟩ := exV fun (r_41 : (List Int)) (out : Out) => ∃ σ : St, out = .exit 0 σ ∧ (σ.env 3 = uL .own r_41 ∧ σ.mem (1, 1) = some [(.l .shr h_.vars.length (encL h_.vars)), (.l .shr h_.next.length (encL h_.next))]) ∧ NoBox [(1, 1)] σ.mem
 refine loopP ({ hd := [1, 3, 10, 11, 12], bx := [], ex := [3], rt := [2] }) I_3 X_4 h_42 (by exact rfl) ?_ ?_ ?_
 ·rw [I_3_]
  exact ⟨by simp [zac, zaa], NoBox.restrict (by intro k hk hb; simp at hk hb; simp [hk, hb])⟩
 ·intro s_1 σ_5 a_2 hI hp
  rw [I_3_] at hI
  obtain ⟨q_7, hn_6⟩ := hI
  try simp [q_7]
  rcases zad hp with ⟨h_8, hp⟩ | ⟨h_8, hp⟩
  ·try simp at h_8
   obtain ⟨e_9, h_10, hp⟩ := zab hp
   have b_11 := at_lo h_10
   have b_12 := at_hi h_10
   try simp at b_11 b_12
   have c_13 := seg_at' h_10 0 1 (by decide) (ds := [.sc (.int .i64 e_9)]) rfl
   try simp at c_13
   obtain ⟨y_14, h_15, hp⟩ := zab hp
   have c_16 := C105_eq h_15
   simp at c_16
   try simp [q_7, h_8, b_11, b_12, c_13, c_16]
   obtain ⟨r_36, h_37, hp⟩ := zab hp
   obtain ⟨I_19, I_19_⟩ := exV fun (s_17 : Int × (List Int)) (σ : St) => (σ.env 1 = uP (1, 1) ∧ σ.env 3 = uL .own s_17.2 ∧ σ.env 10 = uL .shr h_.vars ∧ σ.env 11 = uI (h_.vars.length : Int) ∧ σ.env 12 = uI s_1.2 ∧ σ.env 18 = uL .own y_14 ∧ σ.env 19 = uI (y_14.length : Int) ∧ σ.env 20 = uI s_17.1 ∧ σ.mem (1, 1) = some [(.l .shr h_.vars.length (encL h_.vars)), (.l .shr h_.next.length (encL h_.next))]) ∧ NoBox [(1, 1)] σ.mem
   obtain ⟨X_20, X_20_⟩ := exV fun (r_36 : (List Int)) (out : Out) => ∃ σ : St, out = .exit 2 σ ∧ (σ.env 1 = uP (1, 1) ∧ σ.env 3 = uL .own r_36 ∧ σ.env 10 = uL .shr h_.vars ∧ σ.env 11 = uI (h_.vars.length : Int) ∧ σ.env 12 = uI s_1.2 ∧ σ.mem (1, 1) = some [(.l .shr h_.vars.length (encL h_.vars)), (.l .shr h_.next.length (encL h_.next))]) ∧ NoBox [(1, 1)] σ.mem
   refine loopP ({ hd := [1, 3, 10, 11, 12, 18, 19, 20], bx := [], ex := [1, 3, 10, 11, 12], rt := [2] }) I_19 X_20 h_37 (by exact rfl) ?_ ?_ ?_
   ·rw [I_19_]
    exact ⟨by simp [zac, zaa, q_7, h_8], NoBox.restrict (by intro k hk hb; simp at hk hb; simp [hk, hb, q_7, h_8, hn_6 k (by simp [hk, hb])])⟩
   ·intro s_17 σ_21 a_18 hI hp
    rw [I_19_] at hI
    obtain ⟨q_23, hn_22⟩ := hI
    try simp [h_8, q_23]
    rcases zad hp with ⟨h_24, hp⟩ | ⟨h_24, hp⟩
    ·try simp at h_24
     obtain ⟨e_25, h_26, hp⟩ := zab hp
     have b_27 := at_lo h_26
     have b_28 := at_hi h_26
     try simp at b_27 b_28
     have c_29 := seg_at' h_26 0 1 (by decide) (ds := [.sc (.int .i64 e_25)]) rfl
     try simp at c_29
     obtain ⟨y_30, h_31, hp⟩ := zab hp
     have c_32 := C104_eq h_31
     simp at c_32
     try simp [h_8, q_23, h_24, b_27, b_28, c_29, c_32]
     rcases zad hp with ⟨h_33, hp⟩ | ⟨h_33, hp⟩
     ·try simp at h_33
      cases hp
      try simp [h_8, q_23, h_24, h_33]
      refine zah ?_
      rw [I_19_]
      exact ⟨by simp [zac, zaa, h_8, q_23, h_24, h_33], NoBox.restrict (by intro k hk hb; simp at hk hb; simp [hk, hb, h_8, q_23, h_24, h_33, hn_22 k (by simp [hk, hb])])⟩
     ·try simp at h_33
      obtain ⟨_, h_34, hp⟩ := zab hp
      have b_35 := room_ok h_34
      try simp at b_35
      cases hp
      try simp [h_8, q_23, h_24, h_33, b_35]
      refine zah ?_
      rw [I_19_]
      exact ⟨by simp [zac, zaa, h_8, q_23, h_24, h_33, b_35], NoBox.restrict (by intro k hk hb; simp at hk hb; simp [hk, hb, h_8, q_23, h_24, h_33, b_35, hn_22 k (by simp [hk, hb])])⟩
    ·try simp at h_24
     cases hp
     try simp [h_8, q_23, h_24]
     refine zak ?_
     rw [X_20_]
     exact ⟨_, rfl, by simp [zac, zaa, h_8, q_23, h_24], NoBox.restrict (by intro k hk hb; simp at hk hb; simp [hk, hb, h_8, q_23, h_24, hn_22 k (by simp [hk, hb])])⟩
   ·intro out hX
    rw [X_20_] at hX
    obtain ⟨σ_38, rfl, q_40, hn_39⟩ := hX
    cases hp
    try simp [h_8, q_40]
    refine zah ?_
    rw [I_3_]
    exact ⟨by simp [zac, zaa, h_8, q_40], NoBox.restrict (by intro k hk hb; simp at hk hb; simp [hk, hb, h_8, q_40, hn_39 k (by simp [hk, hb])])⟩
  ·try simp at h_8
   cases hp
   try simp [q_7, h_8]
   refine zak ?_
   rw [X_4_]
   exact ⟨_, rfl, by simp [zac, zaa, q_7, h_8], NoBox.restrict (by intro k hk hb; simp at hk hb; simp [hk, hb, q_7, h_8, hn_6 k (by simp [hk, hb])])⟩
 ·intro out hX
  rw [X_4_] at hX
  obtain ⟨σ_43, rfl, q_45, hn_44⟩ := hX
  cases hp
  simp [Goal, FnEnd, q_45]
theorem pc96 : PC Tryz.prog 96 C96 := pc_of (g := g96) (zai _ g96_s.2.1 ⟨pc104, pc105, trivial⟩) (ent Tryz.func96) fun x y h => w96 h

def C54 : List AV → Option AV := specP (X := Int × THeap × Unit) fun x => impl_IsHeap x.1 x.2.1
theorem C54_eq {vars h_} {y} (h : impl_IsHeap vars h_ = some y) : C54 [av .shr vars, av .shr h_] = some (Res.res y) := zag (x := (vars, h_, ())) h
def g54 : Cfg := { P := Tryz.prog, take := [], keep := [((54, 5), { hd := [3, 5, 35, 36, 37], bx := [], ex := [3, 5], rt := [4] })], gho := [], ctx := [(56, C56), (94, C94), (95, C95), (96, C96)] }
@[simp] theorem g54_s : g54.P = Tryz.prog ∧ g54.ctx = [(56, C56), (94, C94), (95, C95), (96, C96)] ∧ Pl0 g54 := by simp [g54]
theorem w54 {vars h_} {y} (hp : impl_IsHeap vars h_ = some y) : ∃ m, callo g54 0 54 [av .shr vars, av .shr h_] mem0 = some (Res.res y, m) := by
 refine st0 [.tmp 4] Tryz.func54 ?_
 unfold impl_IsHeap at hp
 obtain ⟨y_1, h_2, hp⟩ := zab hp
 have c_3 := C56_eq h_2
 simp at c_3
 simp [Tryz.f54, c_3]
 rcases zad hp with ⟨h_4, hp⟩ | ⟨h_4, hp⟩
 ·try simp at h_4
  try simp [h_4]
  rcases zad hp with ⟨h_5, hp⟩ | ⟨h_5, hp⟩
  ·try simp at h_5
   cases hp
   simp [Goal, FnEnd, h_4, h_5]
  ·try simp at h_5
   try simp [h_4, h_5]
   rcases zad hp with ⟨h_6, hp⟩ | ⟨h_6, hp⟩
   ·try simp at h_6
    cases hp
    simp [Goal, FnEnd, h_4, h_5, h_6]
   ·try simp at h_6
    obtain ⟨y_7, h_8, hp⟩ := zab hp
    have c_9 := C94_eq h_8
    simp at c_9
    try simp [h_4, h_5, h_6, c_9]
    rcases zad hp with ⟨h_10, hp⟩ | ⟨h_10, hp⟩
    ·try simp at h_10
     obtain ⟨y_11, h_12, hp⟩ := zab hp
     have c_13 := C95_eq h_12
     simp at c_13
     try simp [h_4, h_5, h_6, h_10, c_13]
     rcases zad hp with ⟨h_14, hp⟩ | ⟨h_14, hp⟩
     ·try simp at h_14
      cases hp
      simp [Goal, FnEnd, h_4, h_5, h_6, h_10, h_14]
     ·try simp at h_14
      obtain ⟨y_15, h_16, hp⟩ := zab hp
      have c_17 := C96_eq h_16
      simp at c_17
      try simp [h_4, h_5, h_6, h_10, h_14, c_17]
      obtain ⟨r_32, h_33, hp⟩ := zab hp
      obtain ⟨I_20, I_20_⟩ := exV fun (s_18 : Int) (σ : St) => (σ.env 3 = uP (1, 3) ∧ σ.env 5 = uL .own y_15 ∧ σ.env 35 = uL .bor y_15 ∧ σ.env 36 = uI (y_15.length : Int) ∧ σ.env 37 = uI s_18 ∧ σ.mem (1, 3) = some [(.l .shr h_.vars.length (encL h_.vars)), (.l .shr h_.next.length (encL h_.next))]) ∧ NoBox [(1, 3)] σ.mem
      obtain ⟨X_21, X_21_⟩ := exV fun (r_32 : (Unit) ⊕ (Unit)) (out : Out) => Sum.elim (fun r_32 => ∃ σ : St, out = .ret σ ∧ (σ.env 4 = uB false ∧ σ.mem (1, 3) = some [(.l .shr h_.vars.length (encL h_.vars)), (.l .shr h_.next.length (encL h_.next))]) ∧ NoBox [(1, 3)] σ.mem) (fun r_32 => ∃ σ : St, out = .exit 0 σ ∧ (σ.env 3 = uP (1, 3) ∧ σ.env 5 = uL .own y_15 ∧ σ.mem (1, 3) = some [(.l .shr h_.vars.length (encL h_.vars)), (.l .shr h_.next.length (encL h_.next))]) ∧ NoBox [(1, 3)] σ.mem) r_32
      refine loopP ({ hd := [3, 5, 35, 36, 37], bx := [], ex := [3, 5], rt := [4] }) I_20 X_21 h_33 (by exact rfl) ?_ ?_ ?_
      ·rw [I_20_]
       exact ⟨by simp [zac, zaa, h_4, h_5, h_6, h_10, h_14], NoBox.restrict (by intro k hk hb; simp at hk hb; simp [hk, hb, h_4, h_5, h_6, h_10, h_14])⟩
      ·intro s_18 σ_22 a_19 hI hp
       rw [I_20_] at hI
       obtain ⟨q_24, hn_23⟩ := hI
       try simp [h_4, h_5, h_6, h_10, h_14, q_24]
       rcases zad hp with ⟨h_25, hp⟩ | ⟨h_25, hp⟩
       ·try simp at h_25
        obtain ⟨e_26, h_27, hp⟩ := zab hp
        have b_28 := at_lo h_27
        have b_29 := at_hi h_27
        try simp at b_28 b_29
        have c_30 := seg_at' h_27 0 1 (by decide) (ds := [.sc (.int .i64 e_26)]) rfl
        try simp at c_30
        try simp [h_4, h_5, h_6, h_10, h_14, q_24, h_25, b_28, b_29, c_30]
        rcases zad hp with ⟨h_31, hp⟩ | ⟨h_31, hp⟩
        ·try simp at h_31
         cases hp
         try simp [h_4, h_5, h_6, h_10, h_14, q_24, h_25, h_31]
         refine zan ?_
         rw [X_21_]
         exact ⟨_, rfl, by simp [zac, zaa, h_4, h_5, h_6, h_10, h_14, q_24, h_25, h_31], NoBox.restrict (by intro k hk hb; simp at hk hb; simp [hk, hb, h_4, h_5, h_6, h_10, h_14, q_24, h_25, h_31, hn_23 k (by simp [hk, hb])])⟩
        ·try simp at h_31
         cases hp
         try simp [h_4, h_5, h_6, h_10, h_14, q_24, h_25, h_31]
         refine zah ?_
         rw [I_20_]
         exact ⟨by simp [zac, zaa, h_4, h_5, h_6, h_10, h_14, q_24, h_25, h_31], NoBox.restrict (by intro k hk hb; simp at hk hb; simp [hk, hb, h_4, h_5, h_6, h_10, h_14, q_24, h_25, h_31, hn_23 k (by simp [hk, hb])])⟩
       ·try simp at h_25
        cases hp
        try simp [h_4, h_5, h_6, h_10, h_14, q_24, h_25]
        refine zak ?_
        rw [X_21_]
        exact ⟨_, rfl, by simp [zac, zaa, h_4, h_5, h_6, h_10, h_14, q_24, h_25], NoBox.restrict (by intro k hk hb; simp at hk hb; simp [hk, hb, h_4, h_5, h_6, h_10, h_14, q_24, h_25, hn_23 k (by simp [hk, hb])])⟩
      ·intro out hX
       rw [X_21_] at hX
       rcases r_32 with r_32 | r_32
       ·simp only [Sum.elim_inl, Sum.elim_inr] at hX hp
        obtain ⟨σ_34, rfl, q_36, hn_35⟩ := hX
        cases hp
        simp [Goal, FnEnd, h_4, h_5, h_6, h_10, h_14, q_36]
       ·simp only [Sum.elim_inl, Sum.elim_inr] at hX hp
        obtain ⟨σ_37, rfl, q_39, hn_38⟩ := hX
        cases hp
        simp [Goal, FnEnd, h_4, h_5, h_6, h_10, h_14, q_39]
    ·try simp at h_10
     cases hp
     simp [Goal, FnEnd, h_4, h_5, h_6, h_10]
 ·try simp at h_4
  cases hp
  simp [Goal, FnEnd, h_4]
theorem pc54 : PC Tryz.prog 54 C54 := pc_of (g := g54) (zai _ g54_s.2.1 ⟨pc56, pc94, pc95, pc96, trivial⟩) (ent Tryz.func54) fun x y h => w54 h

def C158 : List AV → Option AV := specP (X := (List Int) × (List Int) × Unit) fun x => slices_Equal_int x.1 x.2.1
theorem C158_eq {s1 s2} {y} (h : slices_Equal_int s1 s2 = some y) : C158 [av .shr s1, av .shr s2] = some (Res.res y) := zag (x := (s1, s2, ())) h
def g158 : Cfg := { P := Tryz.prog, take := [], keep := [((158, 4), { hd := [0, 1, 12, 13], bx := [], ex := [], rt := [4] })], gho := [], ctx := [] }
@[simp] theorem g158_s : g158.P = Tryz.prog ∧ g158.ctx = [] ∧ Pl0 g158 := by simp [g158]
theorem w158 {s1 s2} {y} (hp : slices_Equal_int s1 s2 = some y) : ∃ m, callo g158 0 158 [av .shr s1, av .shr s2] mem0 = some (Res.res y, m) := by
 refine st0 [.tmp 4] Tryz.func158 ?_
 unfold slices_Equal_int at hp
 simp [Tryz.f158]
 rcases zad hp with ⟨h_1, hp⟩ | ⟨h_1, hp⟩
 ·try simp at h_1
  cases hp
  simp [Goal, FnEnd, h_1]
 ·try simp at h_1
  try simp [h_1]
  obtain ⟨r_21, h_22, hp⟩ := zab hp
  obtain ⟨I_4, I_4_⟩ := exV fun (s_2 : Int) (σ : St) => (σ.env 0 = uL .shr s1 ∧ σ.env 1 = uL .shr s2 ∧ σ.env 12 = uI (s1.length : Int) ∧ σ.env 13 = uI s_2) ∧ σ.mem = mem0
  obtain ⟨X_5, X_5_⟩ := exV fun (r_21 : (Unit) ⊕ (Unit)) (out : Out) => Sum.elim (fun r_21 => ∃ σ : St, out = .ret σ ∧ σ.env 4 = uB false ∧ σ.mem = mem0) (fun r_21 => ∃ σ : St, out = .exit 0 σ ∧ σ.mem = mem0) r_21
  refine loopP ({ hd := [0, 1, 12, 13], bx := [], ex := [], rt := [4] }) I_4 X_5 h_22 (by exact rfl) ?_ ?_ ?_
  ·rw [I_4_]
   exact ⟨by simp [zac, zaa, h_1], by simp [zaa, h_1]⟩
  ·intro s_2 σ_6 a_3 hI hp
   rw [I_4_] at hI
   obtain ⟨q_8, q_7⟩ := hI
   try simp [h_1, q_8, q_7]
   rcases zad hp with ⟨h_9, hp⟩ | ⟨h_9, hp⟩
   ·try simp at h_9
    obtain ⟨e_10, h_11, hp⟩ := zab hp
    have b_12 := at_lo h_11
    have b_13 := at_hi h_11
    try simp at b_12 b_13
    have c_14 := seg_at' h_11 0 1 (by decide) (ds := [.sc (.int .i64 e_10)]) rfl
    try simp at c_14
    obtain ⟨e_15, h_16, hp⟩ := zab hp
    have b_17 := at_lo h_16
    have b_18 := at_hi h_16
    try simp at b_17 b_18
    have c_19 := seg_at' h_16 0 1 (by decide) (ds := [.sc (.int .i64 e_15)]) rfl
    try simp at c_19
    try simp [h_1, q_8, q_7, h_9, b_12, b_13, c_14, b_17, b_18, c_19]
    rcases zad hp with ⟨h_20, hp⟩ | ⟨h_20, hp⟩
    ·try simp at h_20
     cases hp
     try simp [h_1, q_8, q_7, h_9, h_20]
     refine zan ?_
     rw [X_5_]
     exact ⟨_, rfl, by simp [zac, zaa, h_1, q_8, q_7, h_9, h_20], by simp [zaa, h_1, q_8, q_7, h_9, h_20]⟩
    ·try simp at h_20
     cases hp
     try simp [h_1, q_8, q_7, h_9, h_20]
     refine zah ?_
     rw [I_4_]
     exact ⟨by simp [zac, zaa, h_1, q_8, q_7, h_9, h_20], by simp [zaa, h_1, q_8, q_7, h_9, h_20]⟩
   ·try simp at h_9
    cases hp
    try simp [h_1, q_8, q_7, h_9]
    refine zak ?_
    rw [X_5_]
    exact ⟨_, rfl, by simp [zaa, h_1, q_8, q_7, h_9]⟩
  ·intro out hX
   rw [X_5_] at hX
   rcases r_21 with r_21 | r_21
   ·simp only [Sum.elim_inl, Sum.elim_inr] at hX hp
    obtain ⟨σ_23, rfl, q_25, q_24⟩ := hX
    cases hp
    simp [Goal, FnEnd, h_1, q_25, q_24]
   ·simp only [Sum.elim_inl, Sum.elim_inr] at hX hp
    obtain ⟨σ_26, rfl, q_27⟩ := hX
    cases hp
    simp [Goal, FnEnd, h_1, q_27]
theorem pc158 : PC Tryz.prog 158 C158 := pc_of (g := g158) (zai [] rfl trivial) (ent Tryz.func158) fun x y h => w158 h

def C149 : List AV → Option AV := specP (X := THeap × THeap × Unit) fun x => impl_EqualHeap x.1 x.2.1
theorem C149_eq {a_ b_} {y} (h : impl_EqualHeap a_ b_ = some y) : C149 [av .shr a_, av .shr b_] = some (Res.res y) := zag (x := (a_, b_, ())) h
def g149 : Cfg := { P := Tryz.prog, take := [], keep := [], gho := [], ctx := [(158, C158)] }
@[simp] theorem g149_s : g149.P = Tryz.prog ∧ g149.ctx = [(158, C158)] ∧ Pl0 g149 := by simp [g149]
theorem w149 {a_ b_} {y} (hp : impl_EqualHeap a_ b_ = some y) : ∃ m, callo g149 0 149 [av .shr a_, av .shr b_] mem0 = some (Res.res y, m) := by
 refine st0 [.tmp 4] Tryz.func149 ?_
 unfold impl_EqualHeap at hp
 obtain ⟨y_1, h_2, hp⟩ := zab hp
 have c_3 := C158_eq h_2
 simp at c_3
 simp [Tryz.f149, c_3]
 rcases zad hp with ⟨h_4, hp⟩ | ⟨h_4, hp⟩
 ·try simp at h_4
  obtain ⟨y_5, h_6, hp⟩ := zab hp
  have c_7 := C158_eq h_6
  simp at c_7
  cases hp
  simp [Goal, FnEnd, h_4, c_7]
 ·try simp at h_4
  cases hp
  simp [Goal, FnEnd, h_4]
theorem pc149 : PC Tryz.prog 149 C149 := pc_of (g := g149) (zai _ g149_s.2.1 ⟨pc158, trivial⟩) (ent Tryz.func149) fun x y h => w149 h

def C120 : List AV → Option AV := specP (X := TState × TState × Unit) fun x => impl_EqualState x.1 x.2.1
theorem C120_eq {a_ b_} {y} (h : impl_EqualState a_ b_ = some y) : C120 [av .shr a_, av .shr b_] = some (Res.res y) := zag (x := (a_, b_, ())) h
def g120 : Cfg := { P := Tryz.prog, take := [], keep := [], gho := [], ctx := [(149, C149)] }
@[simp] theorem g120_s : g120.P = Tryz.prog ∧ g120.ctx = [(149, C149)] ∧ Pl0 g120 := by simp [g120]
theorem w120 {a_ b_} {y} (hp : impl_EqualState a_ b_ = some y) : ∃ m, callo g120 0 120 [av .shr a_, av .shr b_] mem0 = some (Res.res y, m) := by
 refine st0 [.tmp 4] Tryz.func120 ?_
 unfold impl_EqualState at hp
 simp [Tryz.f120]
 rcases zad hp with ⟨h_1, hp⟩ | ⟨h_1, hp⟩
 ·try simp at h_1
  obtain ⟨y_2, h_3, hp⟩ := zab hp
  have c_4 := C149_eq h_3
  simp at c_4
  cases hp
  simp [Goal, FnEnd, h_1, c_4]
 ·try simp at h_1
  cases hp
  simp [Goal, FnEnd, h_1]
theorem pc120 : PC Tryz.prog 120 C120 := pc_of (g := g120) (zai _ g120_s.2.1 ⟨pc149, trivial⟩) (ent Tryz.func120) fun x y h => w120 h

def C55 : List AV → Option AV := specP (X := THeap × Unit) fun x => impl_Heap_own x.1
theorem C55_eq {h_} {y} (h : impl_Heap_own h_ = some y) : C55 [av .shr h_] = some (Res.res y) := zag (x := (h_, ())) h
def g55 : Cfg := { P := Tryz.prog, take := [], keep := [], gho := [], ctx := [(97, C97)] }
@[simp] theorem g55_s : g55.P = Tryz.prog ∧ g55.ctx = [(97, C97)] ∧ Pl0 g55 := by simp [g55]
theorem w55 {h_} {y} (hp : impl_Heap_own h_ = some y) : ∃ m, callo g55 0 55 [av .shr h_] mem0 = some (Res.res y, m) := by
 refine st0 [.cell 2 31] Tryz.func55 ?_
 unfold impl_Heap_own at hp
 obtain ⟨y_1, h_2, hp⟩ := zab hp
 have c_3 := C97_eq h_2
 simp at c_3
 obtain ⟨y_4, h_5, hp⟩ := zab hp
 have c_6 := C97_eq h_5
 simp at c_6
 cases hp
 simp [Tryz.f55, Goal, FnEnd, retR, rsrc, RSrc.val, nodupR, nodup, tupPart, c_3, c_6]
theorem pc55 : PC Tryz.prog 55 C55 := pc_of (g := g55) (zai _ g55_s.2.1 ⟨pc97, trivial⟩) (ent Tryz.func55) fun x y h => w55 h

def C111 : List AV → Option AV := specP (X := TProgram × Int × Unit) fun x => impl_EdgesFrom x.1 x.2.1
theorem C111_eq {p_ point} {y} (h : impl_EdgesFrom p_ point = some y) : C111 [av .shr p_, av .shr point] = some (Res.res y) := zag (x := (p_, point, ())) h
def g111 : Cfg := { P := Tryz.prog, take := [(111, 21), (111, 26)], keep := [((111, 3), { hd := [1, 5, 10, 11, 12], bx := [7], ex := [5], rt := [4] })], gho := [], ctx := [] }
@[simp] theorem g111_s : g111.P = Tryz.prog ∧ g111.ctx = [] ∧ Pl1 g111 ∧ g111.take = [(111, 21), (111, 26)] := by simp [g111]
theorem w111 {p_ point} {y} (hp : impl_EdgesFrom p_ point = some y) : ∃ m, callo g111 0 111 [av .shr p_, av .shr point] mem0 = some (Res.res y, m) := by
 refine st0 [.tmp 4] Tryz.func111 ?_
 unfold impl_EdgesFrom at hp
 simp [Tryz.f111]
 obtain ⟨r_18, h_19, hp⟩ := zab hp
 obtain ⟨I_3, I_3_⟩ := exV fun (s_1 : (List Int) × Int) (σ : St) => (σ.env 1 = uI point ∧ σ.env 5 = uL .own s_1.1 ∧ σ.env 10 = uL .shr p_.edges ∧ σ.env 11 = uI (p_.edges.length : Int) ∧ σ.env 12 = uI s_1.2 ∧ σ.mem (1, 2) = some [(.l .shr p_.vars.length (encL p_.vars)), (.s (.int .i64 p_.points)), (.l .shr p_.edges.length (encL p_.edges))]) ∧ NoBox [(1, 2)] σ.mem
 obtain ⟨X_4, X_4_⟩ := exV fun (r_18 : (List Int)) (out : Out) => ∃ σ : St, out = .exit 0 σ ∧ (σ.env 5 = uL .own r_18 ∧ σ.mem (1, 2) = some [(.l .shr p_.vars.length (encL p_.vars)), (.s (.int .i64 p_.points)), (.l .shr p_.edges.length (encL p_.edges))]) ∧ NoBox [(1, 2)] σ.mem
 refine loopP ({ hd := [1, 5, 10, 11, 12], bx := [7], ex := [5], rt := [4] }) I_3 X_4 h_19 (by exact rfl) ?_ ?_ ?_
 ·rw [I_3_]
  exact ⟨by simp [zac, zaa], NoBox.restrict (by intro k hk hb; simp at hk hb; simp [hk, hb])⟩
 ·intro s_1 σ_5 a_2 hI hp
  rw [I_3_] at hI
  obtain ⟨q_7, hn_6⟩ := hI
  try simp [q_7]
  rcases zad hp with ⟨h_8, hp⟩ | ⟨h_8, hp⟩
  ·try simp at h_8
   obtain ⟨e_9, h_10, hp⟩ := zab hp
   have b_11 := at_lo h_10
   have b_12 := at_hi h_10
   try simp at b_11 b_12
   have c_13 := seg_at' h_10 0 5 (by decide) (ds := [.sc (.int .i64 e_9.from_), .sc (.int .i64 e_9.to_), .sc (.int .i64 e_9.stmt.kind), .sc (.string e_9.stmt.a), .sc (.string e_9.stmt.b)]) rfl
   try simp at c_13
   have n_14 := hn_6 (1, 7) (by simp)
   try simp [q_7, h_8, b_11, b_12, c_13, n_14]
   rcases zad hp with ⟨h_15, hp⟩ | ⟨h_15, hp⟩
   ·try simp at h_15
    obtain ⟨_, h_16, hp⟩ := zab hp
    have b_17 := room_ok h_16
    try simp at b_17
    cases hp
    try simp [q_7, h_8, h_15, b_17]
    refine zah ?_
    rw [I_3_]
    exact ⟨by simp [zac, zaa, q_7, h_8, h_15, b_17], NoBox.restrict (by intro k hk hb; simp at hk hb; simp [hk, hb, q_7, h_8, h_15, b_17, hn_6 k (by simp [hk, hb])])⟩
   ·try simp at h_15
    cases hp
    try simp [q_7, h_8, h_15]
    refine zah ?_
    rw [I_3_]
    exact ⟨by simp [zac, zaa, q_7, h_8, h_15], NoBox.restrict (by intro k hk hb; simp at hk hb; simp [hk, hb, q_7, h_8, h_15, hn_6 k (by simp [hk, hb])])⟩
  ·try simp at h_8
   cases hp
   try simp [q_7, h_8]
   refine zak ?_
   rw [X_4_]
   exact ⟨_, rfl, by simp [zac, zaa, q_7, h_8], NoBox.restrict (by intro k hk hb; simp at hk hb; simp [hk, hb, q_7, h_8, hn_6 k (by simp [hk, hb])])⟩
 ·intro out hX
  rw [X_4_] at hX
  obtain ⟨σ_20, rfl, q_22, hn_21⟩ := hX
  cases hp
  simp [Goal, FnEnd, q_22]
theorem pc111 : PC Tryz.prog 111 C111 := pc_of (g := g111) (zai [] rfl trivial) (ent Tryz.func111) fun x y h => w111 h
end Go.Proofs

