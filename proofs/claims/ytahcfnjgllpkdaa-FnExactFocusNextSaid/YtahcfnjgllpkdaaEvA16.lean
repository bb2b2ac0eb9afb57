import Derived.Test.YtahcfnjgllpkdaaEvA15
set_option linter.unusedSimpArgs false
set_option linter.unusedVariables false
set_option linter.unnecessarySimpa false
namespace Go.Proofs
open Go.Ev
noncomputable def C79 : List AV → Option AV := specP (X := TStructure × Unit) fun x => impl_variables x.1
theorem C79_eq {s} {y} (h : impl_variables s = some y) : C79 [av .shr s] = some (Res.res y) := specP_eq (X := TStructure × Unit) (F := fun x => impl_variables x.1) (x := (s, ())) h
noncomputable def g79 : Cfg := { P := Try.prog, take := [], keep := [], gho := [], ctx := [] }
@[simp] theorem g79_P : g79.P = Try.prog := rfl
@[simp] theorem g79_t : g79.take = [] := rfl
@[simp] theorem g79_g : g79.gho = [] := rfl
@[simp] theorem g79_r : g79.ro = [] := rfl
@[simp] theorem g79_w : g79.away = [] := by rw [g79]
set_option maxHeartbeats 4000000 in
set_option maxRecDepth 100000 in
theorem w79 {s} {y} (hp : impl_variables s = some y) : ∃ m, callo g79 0 79 [av .shr s] mem0 = some (Res.res y, m) := by
  refine start_fn (Try.f79.body.getD .skip) [.tmp 2] rfl rfl Try.func79 (by kernel_rfl) (by kernel_rfl) (by simp [Try.ntmps79]) rfl ?_
  unfold impl_variables at hp
  simp [Try.f79]
  rcases cond_cases hp with ⟨h_1, hp⟩ | ⟨h_1, hp⟩
  · try simp at h_1
    cases hp
    simp [Goal, FnEnd, h_1]
  · try simp at h_1
    obtain ⟨e_2, h_3, hp⟩ := bind_some hp
    have b_5 := at_hi h_3
    try simp at b_5
    have c_6 := seg_at' h_3 0 1 (by decide) (ds := [.sl e_2.vars.length (encL e_2.vars)]) rfl
    try simp at c_6
    cases hp
    simp [Goal, FnEnd, h_1, b_5, c_6]
theorem pc79 : PC Try.prog 79 C79 := pc_of (g := g79) (fun f F h => by cases h) ⟨Try.f79, Try.func79, by kernel_rfl, by kernel_rfl⟩ fun x y h => w79 h

noncomputable def C132 : List AV → Option AV := specP (X := Int × Unit) fun x => impl_IsTruth x.1
theorem C132_eq {a_} {y} (h : impl_IsTruth a_ = some y) : C132 [av .shr a_] = some (Res.res y) := specP_eq (X := Int × Unit) (F := fun x => impl_IsTruth x.1) (x := (a_, ())) h
noncomputable def g132 : Cfg := { P := Try.prog, take := [], keep := [], gho := [], ctx := [(49, C49)] }
@[simp] theorem g132_P : g132.P = Try.prog := rfl
@[simp] theorem g132_t : g132.take = [] := rfl
@[simp] theorem g132_g : g132.gho = [] := rfl
@[simp] theorem g132_r : g132.ro = [] := rfl
@[simp] theorem g132_w : g132.away = [] := by rw [g132]
@[simp] theorem g132_49 : lookN 49 g132.ctx = some C49 := rfl
set_option maxHeartbeats 4000000 in
set_option maxRecDepth 100000 in
theorem w132 {a_} {y} (hp : impl_IsTruth a_ = some y) : ∃ m, callo g132 0 132 [av .shr a_] mem0 = some (Res.res y, m) := by
  refine start_fn (Try.f132.body.getD .skip) [.tmp 2] rfl rfl Try.func132 (by kernel_rfl) (by kernel_rfl) (by simp [Try.ntmps132]) rfl ?_
  unfold impl_IsTruth at hp
  obtain ⟨y_1, h_2, hp⟩ := bind_some hp
  have c_3 := C49_eq h_2
  simp at c_3
  cases hp
  simp [Try.f132, Goal, FnEnd, c_3]
theorem pc132 : PC Try.prog 132 C132 := pc_of (g := g132) (ctxOK_of [(49, C49)] rfl ⟨pc49, trivial⟩) ⟨Try.f132, Try.func132, by kernel_rfl, by kernel_rfl⟩ fun x y h => w132 h

noncomputable def C160 : List AV → Option AV := specP (X := Int × Unit) fun x => impl_areTruths_1 x.1
theorem C160_eq {a_} {y} (h : impl_areTruths_1 a_ = some y) : C160 [av .shr a_] = some (Res.res y) := specP_eq (X := Int × Unit) (F := fun x => impl_areTruths_1 x.1) (x := (a_, ())) h
noncomputable def g160 : Cfg := { P := Try.prog, take := [], keep := [], gho := [], ctx := [(132, C132)] }
@[simp] theorem g160_P : g160.P = Try.prog := rfl
@[simp] theorem g160_t : g160.take = [] := rfl
@[simp] theorem g160_g : g160.gho = [] := rfl
@[simp] theorem g160_r : g160.ro = [] := rfl
@[simp] theorem g160_w : g160.away = [] := by rw [g160]
@[simp] theorem g160_132 : lookN 132 g160.ctx = some C132 := rfl
set_option maxHeartbeats 4000000 in
set_option maxRecDepth 100000 in
theorem w160 {a_} {y} (hp : impl_areTruths_1 a_ = some y) : ∃ m, callo g160 0 160 [av .shr a_] mem0 = some (Res.res y, m) := by
  refine start_fn (Try.f160.body.getD .skip) [.tmp 2] rfl rfl Try.func160 (by kernel_rfl) (by kernel_rfl) (by simp [Try.ntmps160]) rfl ?_
  unfold impl_areTruths_1 at hp
  obtain ⟨y_1, h_2, hp⟩ := bind_some hp
  have c_3 := C132_eq h_2
  simp at c_3
  cases hp
  simp [Try.f160, Goal, FnEnd, c_3]
theorem pc160 : PC Try.prog 160 C160 := pc_of (g := g160) (ctxOK_of [(132, C132)] rfl ⟨pc132, trivial⟩) ⟨Try.f160, Try.func160, by kernel_rfl, by kernel_rfl⟩ fun x y h => w160 h

abbrev G169 (g : Cfg) : Prop := Has Try.prog g 169 Try.f169 [] [(2, { hd := [0, 1, 7, 8], bx := [], ex := [], rt := [4] })] [] []
set_option maxHeartbeats 4000000 in
set_option maxRecDepth 100000 in
theorem wI169 {g : Cfg} (G : G169 g) {d : Nat} {mem : Mem} (hT : Tight d mem)  {s : (List Int)} {f_ : (Int → Option (Bool))} {m_0 : Md} (hm_0 : LentM m_0) {fk_f_ : Nat} {caps_f_ : List (Key × Nat)} (hl_f_ : ∀ c ∈ caps_f_, c.1.1 ≤ d) (hc_f_ : Clo g d mem fk_f_ caps_f_ fun x : Int × Unit => f_ x.1) {y} (hp : slices_IndexFunc_int s f_ = some y) : callo g d 169 [av m_0 s, .one (.fn fk_f_ caps_f_)] mem = some (Res.res y, mem) := by
  have gP := G.P; have gt := G.tk; have gr := G.ro; have gg := G.gh
  have k_2 := G.kp (2, { hd := [0, 1, 7, 8], bx := [], ex := [], rt := [4] }) (by simp)
  have hT2 : memKill (fun k => decide (d < k.1)) mem = mem := hT
  refine start_in (Try.f169.body.getD .skip) [.tmp 4] G Try.func169 (by kernel_rfl) (by simp [Try.ntmps169]) rfl ?_
  unfold slices_IndexFunc_int at hp
  simp [Try.f169, gP, gt, gr, gg, hm_0.copy, hm_0.elem]
  obtain ⟨r_20, h_21, hp⟩ := bind_some hp
  obtain ⟨I_3, I_3_⟩ : ∃ I : Int → St → Prop, I = (fun (s_1 : Int) (σ : St) => σ.env 0 = .one (.l m_0 s.length (encL s)) ∧ σ.env 1 = .one (.fn fk_f_ caps_f_) ∧ σ.env 7 = .one (.s (.int .i64 (s.length : Int))) ∧ σ.env 8 = .one (.s (.int .i64 s_1)) ∧ σ.mem = mem) := ⟨_, rfl⟩
  obtain ⟨X_4, X_4_⟩ : ∃ X : ((Int) ⊕ (Unit)) → Out → Prop, X = (fun (r_20 : (Int) ⊕ (Unit)) (out : Out) => Sum.elim (fun r_20 => ∃ σ : St, out = .ret σ ∧ σ.env 4 = .one (.s (.int .i64 r_20)) ∧ σ.mem = mem) (fun r_20 => ∃ σ : St, out = .exit 0 σ ∧ σ.mem = mem) r_20) := ⟨_, rfl⟩
  refine loopP ({ hd := [0, 1, 7, 8], bx := [], ex := [], rt := [4] }) I_3 X_4 h_21 (by exact k_2) ?_ ?_ ?_
  · rw [I_3_]
    exact ⟨by simp [restrict_env, gP, gt, gr, gg, hm_0.copy, hm_0.elem], by simp [restrict_env, gP, gt, gr, gg, hm_0.copy, hm_0.elem] <;> first | (intro x x1 x2 hx; have h0 := hl_f_ _ hx; simp at h0; omega) | (intro x hx; have h0 := hl_f_ _ hx; simp at h0; omega), by simp [restrict_env, gP, gt, gr, gg, hm_0.copy, hm_0.elem], by simp [restrict_env, gP, gt, gr, gg, hm_0.copy, hm_0.elem], by simp [restrict_mem, gP, gt, gr, gg, hm_0.copy, hm_0.elem]⟩
  · intro s_1 σ_5 a_2 hI hp
    rw [I_3_] at hI
    obtain ⟨q_6, q_7, q_8, q_9, q_10⟩ := hI
    try simp [gP, gt, gr, gg, hm_0.copy, hm_0.elem, q_6, q_7, q_8, q_9, q_10]
    rcases cond_cases hp with ⟨h_11, hp⟩ | ⟨h_11, hp⟩
    · try simp at h_11
      obtain ⟨e_12, h_13, hp⟩ := bind_some hp
      have b_14 := at_lo h_13
      have b_15 := at_hi h_13
      try simp at b_14
      try simp at b_15
      have c_16 := seg_at' h_13 0 1 (by decide) (ds := [.sc (.int .i64 e_12)]) rfl
      try simp at c_16
      obtain ⟨y_17, h_18, hp⟩ := bind_some hp
      try simp [gP, gt, gr, gg, hm_0.copy, hm_0.elem, q_6, q_7, q_8, q_9, q_10, h_11, b_14, b_15, c_16]
      refine goal_call ([av .shr e_12] ++ capsAV caps_f_) (Res.res y_17) (by simp [capsAV, gP, gt, gr, gg, hm_0.copy, hm_0.elem, q_6, q_7, q_8, q_9, q_10, h_11]) (hc_f_ _ _ _ (e_12, ()) _ (Nat.le_succ d) (fun k hk => by first | rfl | rw [q_10]) (by repeat (first | exact tight_mem0 _ | exact hT.up | exact hT | (simp only [q_6, q_7, q_8, q_9, q_10]; done) | refine Tight.upd ?_ (by simp) (by simp))) ⟨_, _, (.inl rfl), rfl, rfl⟩ h_18) ?_
      try simp [gP, gt, gr, gg, hm_0.copy, hm_0.elem, q_6, q_7, q_8, q_9, q_10, h_11]
      rcases cond_cases hp with ⟨h_19, hp⟩ | ⟨h_19, hp⟩
      · try simp at h_19
        cases hp
        try simp [gP, gt, gr, gg, hm_0.copy, hm_0.elem, q_6, q_7, q_8, q_9, q_10, h_11, h_19]
        refine goal_outR ?_
        rw [X_4_]
        exact ⟨_, rfl, by simp [restrict_env, gP, gt, gr, gg, hm_0.copy, hm_0.elem, q_6, q_7, q_8, q_9, q_10, h_11, h_19], by simp [restrict_mem, gP, gt, gr, gg, hm_0.copy, hm_0.elem, q_6, q_7, q_8, q_9, q_10, h_11, h_19]⟩
      · try simp at h_19
        cases hp
        try simp [gP, gt, gr, gg, hm_0.copy, hm_0.elem, q_6, q_7, q_8, q_9, q_10, h_11, h_19]
        refine goal_next ?_
        rw [I_3_]
        exact ⟨by simp [restrict_env, gP, gt, gr, gg, hm_0.copy, hm_0.elem, q_6, q_7, q_8, q_9, q_10, h_11, h_19], by simp [restrict_env, gP, gt, gr, gg, hm_0.copy, hm_0.elem, q_6, q_7, q_8, q_9, q_10, h_11, h_19] <;> first | (intro x x1 x2 hx; have h0 := hl_f_ _ hx; simp at h0; omega) | (intro x hx; have h0 := hl_f_ _ hx; simp at h0; omega), by simp [restrict_env, gP, gt, gr, gg, hm_0.copy, hm_0.elem, q_6, q_7, q_8, q_9, q_10, h_11, h_19], by simp [restrict_env, gP, gt, gr, gg, hm_0.copy, hm_0.elem, q_6, q_7, q_8, q_9, q_10, h_11, h_19], by simp [restrict_mem, gP, gt, gr, gg, hm_0.copy, hm_0.elem, q_6, q_7, q_8, q_9, q_10, h_11, h_19]⟩
    · try simp at h_11
      cases hp
      try simp [gP, gt, gr, gg, hm_0.copy, hm_0.elem, q_6, q_7, q_8, q_9, q_10, h_11]
      refine goal_outX ?_
      rw [X_4_]
      exact ⟨_, rfl, by simp [restrict_mem, gP, gt, gr, gg, hm_0.copy, hm_0.elem, q_6, q_7, q_8, q_9, q_10, h_11]⟩
  · intro out hX
    rw [X_4_] at hX
    rcases r_20 with r_20 | r_20
    · simp only [Sum.elim_inl, Sum.elim_inr] at hX hp
      obtain ⟨σ_22, rfl, q_23, q_24⟩ := hX
      cases hp
      simp [Goal, FnEndI, memKill_hi, gP, gt, gr, gg, hm_0.copy, hm_0.elem, q_23, q_24, hT2]
    · simp only [Sum.elim_inl, Sum.elim_inr] at hX hp
      obtain ⟨σ_25, rfl, q_26⟩ := hX
      cases hp
      simp [Goal, FnEndI, memKill_hi, gP, gt, gr, gg, hm_0.copy, hm_0.elem, q_26, hT2]

abbrev G151 (g : Cfg) : Prop := Has Try.prog g 151 Try.f151 [] [] [] []
set_option maxHeartbeats 4000000 in
set_option maxRecDepth 100000 in
theorem wI151 {g : Cfg} (G : G151 g) (G_169 : G169 g) {d : Nat} {mem : Mem} (hT : Tight d mem)  {s : (List Int)} {f_ : (Int → Option (Bool))} {m_0 : Md} (hm_0 : LentM m_0) {fk_f_ : Nat} {caps_f_ : List (Key × Nat)} (hl_f_ : ∀ c ∈ caps_f_, c.1.1 ≤ d) (hc_f_ : Clo g d mem fk_f_ caps_f_ fun x : Int × Unit => f_ x.1) {y} (hp : slices_ContainsFunc_int s f_ = some y) : callo g d 151 [av m_0 s, .one (.fn fk_f_ caps_f_)] mem = some (Res.res y, mem) := by
  have gP := G.P; have gt := G.tk; have gr := G.ro; have gg := G.gh
  have i_169 := G_169.no
  have hT2 : memKill (fun k => decide (d < k.1)) mem = mem := hT
  refine start_in (Try.f151.body.getD .skip) [.tmp 4] G Try.func151 (by kernel_rfl) (by simp [Try.ntmps151]) rfl ?_
  unfold slices_ContainsFunc_int at hp
  obtain ⟨y_1, h_2, hp⟩ := bind_some hp
  simp [Try.f151, gP, gt, gr, gg, i_169, hm_0.copy, hm_0.elem]
  refine goal_call [av m_0 s, .one (.fn fk_f_ caps_f_)] (Res.res y_1) (by simp [gP, gt, gr, gg, i_169, hm_0.copy, hm_0.elem]) (wI169 G_169 (by repeat (first | exact tight_mem0 _ | exact hT.up | exact hT | (simp only [true_and]; done) | refine Tight.upd ?_ (by simp) (by simp))) hm_0 (fun c hc => Nat.le_succ_of_le (hl_f_ c hc)) (hc_f_.mono (Nat.le_succ d) (fun k hk => rfl)) h_2) ?_
  cases hp
  simp [Goal, FnEndI, memKill_hi, gP, gt, gr, gg, i_169, hm_0.copy, hm_0.elem, hT2]

noncomputable def C129 : List AV → Option AV := specP (X := (List Int) × Unit) fun x => impl_areTruths x.1
theorem C129_eq {list} {y} (h : impl_areTruths list = some y) : C129 [av .shr list] = some (Res.res y) := specP_eq (X := (List Int) × Unit) (F := fun x => impl_areTruths x.1) (x := (list, ())) h
noncomputable def g129 : Cfg := { P := Try.prog, take := [], keep := [((169, 2), { hd := [0, 1, 7, 8], bx := [], ex := [], rt := [4] })], gho := [], ctx := [(160, C160)] }
@[simp] theorem g129_P : g129.P = Try.prog := rfl
@[simp] theorem g129_t : g129.take = [] := rfl
@[simp] theorem g129_g : g129.gho = [] := rfl
@[simp] theorem g129_r : g129.ro = [] := rfl
@[simp] theorem g129_w : g129.away = [] := by rw [g129]
@[simp] theorem g129_160 : lookN 160 g129.ctx = some C160 := rfl
@[simp] theorem g129_151 : lookN 151 g129.ctx = none := rfl
@[simp] theorem g129_169 : lookN 169 g129.ctx = none := rfl
set_option maxHeartbeats 4000000 in
set_option maxRecDepth 100000 in
theorem w129 {list} {y} (hp : impl_areTruths list = some y) : ∃ m, callo g129 0 129 [av .shr list] mem0 = some (Res.res y, m) := by
  have G_151 : G151 g129 := ⟨rfl, by kernel_rfl, rfl, fun t => by simp, noAway (fun t => by simp) (by simp), fun i => by simp [lookK], by simp [g129, lookK], by simp⟩
  have G_169 : G169 g129 := ⟨rfl, by kernel_rfl, rfl, fun t => by simp, noAway (fun t => by simp) (by simp), fun i => by simp [lookK], by simp [g129, lookK], by simp⟩
  refine start_fn (Try.f129.body.getD .skip) [.tmp 2] rfl rfl Try.func129 (by kernel_rfl) (by kernel_rfl) (by simp [Try.ntmps129]) rfl ?_
  unfold impl_areTruths at hp
  obtain ⟨y_1, h_2, hp⟩ := bind_some hp
  simp [Try.f129]
  refine goal_call [av .shr list, .one (.fn 160 [])] (Res.res y_1) (by simp) (wI151 G_151 G_169 (by repeat (first | exact tight_mem0 _ | exact hT.up | exact hT | (simp only [true_and]; done) | refine Tight.upd ?_ (by simp) (by simp))) (.inl rfl) (by simp) (clo_ctx (by rfl)) h_2) ?_
  cases hp
  simp [Goal, FnEnd]
theorem pc129 : PC Try.prog 129 C129 := pc_of (g := g129) (ctxOK_of [(160, C160)] rfl ⟨pc160, trivial⟩) ⟨Try.f129, Try.func129, by kernel_rfl, by kernel_rfl⟩ fun x y h => w129 h

abbrev G130 (g : Cfg) : Prop := Has Try.prog g 130 Try.f130 [] [] [] []
set_option maxHeartbeats 4000000 in
set_option maxRecDepth 100000 in
theorem wI130 {g : Cfg} (G : G130 g) (G_127 : G127 g) {d : Nat} {mem : Mem} (hT : Tight d mem)  {s : (List TNode)} {f_ : (TNode → Option (Bool))} {m_0 : Md} (hm_0 : LentM m_0) {fk_f_ : Nat} {caps_f_ : List (Key × Nat)} (hl_f_ : ∀ c ∈ caps_f_, c.1.1 ≤ d) (hc_f_ : Clo g d mem fk_f_ caps_f_ fun x : TNode × Unit => f_ x.1) {y} (hp : slices_ContainsFunc_Node s f_ = some y) : callo g d 130 [av m_0 s, .one (.fn fk_f_ caps_f_)] mem = some (Res.res y, mem) := by
  have gP := G.P; have gt := G.tk; have gr := G.ro; have gg := G.gh
  have i_127 := G_127.no
  have hT2 : memKill (fun k => decide (d < k.1)) mem = mem := hT
  refine start_in (Try.f130.body.getD .skip) [.tmp 4] G Try.func130 (by kernel_rfl) (by simp [Try.ntmps130]) rfl ?_
  unfold slices_ContainsFunc_Node at hp
  obtain ⟨y_1, h_2, hp⟩ := bind_some hp
  simp [Try.f130, gP, gt, gr, gg, i_127, hm_0.copy, hm_0.elem]
  refine goal_call [av m_0 s, .one (.fn fk_f_ caps_f_)] (Res.res y_1) (by simp [gP, gt, gr, gg, i_127, hm_0.copy, hm_0.elem]) (wI127 G_127 (by repeat (first | exact tight_mem0 _ | exact hT.up | exact hT | (simp only [true_and]; done) | refine Tight.upd ?_ (by simp) (by simp))) hm_0 (fun c hc => Nat.le_succ_of_le (hl_f_ c hc)) (hc_f_.mono (Nat.le_succ d) (fun k hk => rfl)) h_2) ?_
  cases hp
  simp [Goal, FnEndI, memKill_hi, gP, gt, gr, gg, i_127, hm_0.copy, hm_0.elem, hT2]

abbrev G131 (g : Cfg) : Prop := Has Try.prog g 131 Try.f131 [] [] [(129, C129), (132, C132)] []
set_option maxHeartbeats 4000000 in
set_option maxRecDepth 100000 in
theorem wI131 {g : Cfg} (G : G131 g) {d : Nat} {mem : Mem} (hT : Tight d mem) {K_1 : Key} {x_ : TNode} {c0 : Int} {m_0 : Md} (hm_0 : LentM m_0) (hk_1 : K_1.1 ≤ d) (hb_1 : mem K_1 = some [(.s (.int .i64 c0))]) {y} (hp : impl_IsStructure_1 x_ c0 = some y) : callo g d 131 [av m_0 x_, .one (.ptr K_1 0)] mem = some (Res.res y, mem) := by
  have gP := G.P; have gt := G.tk; have gr := G.ro; have gg := G.gh
  have c_129 := G.cs (129, C129) (by simp)
  have c_132 := G.cs (132, C132) (by simp)
  have hT2 : memKill (fun k => decide (d < k.1)) mem = mem := hT
  have hm0 : ∀ t, mem (d + 1, t) = none := fun t => hT.none (by simp)
  have nk_1 : ∀ t, (K_1 = (d + 1, t)) = False := fun t => by simp; intro h; rw [h] at hk_1; simp at hk_1; omega
  refine start_in (Try.f131.body.getD .skip) [.tmp 3] G Try.func131 (by kernel_rfl) (by simp [Try.ntmps131]) rfl ?_
  unfold impl_IsStructure_1 at hp
  simp [Try.f131, gP, gt, gr, gg, hm0, hm_0.copy, hm_0.elem, hb_1, nk_1]
  rcases cond_cases hp with ⟨h_1, hp⟩ | ⟨h_1, hp⟩
  · try simp at h_1
    cases hp
    simp [Goal, FnEndI, memKill_hi, gP, gt, gr, gg, hm0, hm_0.copy, hm_0.elem, hb_1, nk_1, h_1, hT2]
  · try simp at h_1
    try simp [gP, gt, gr, gg, hm0, hm_0.copy, hm_0.elem, hb_1, nk_1, h_1]
    rcases cond_cases hp with ⟨h_2, hp⟩ | ⟨h_2, hp⟩
    · try simp at h_2
      cases hp
      simp [Goal, FnEndI, memKill_hi, gP, gt, gr, gg, hm0, hm_0.copy, hm_0.elem, hb_1, nk_1, h_1, h_2, hT2]
    · try simp at h_2
      obtain ⟨y_3, h_4, hp⟩ := bind_some hp
      have c_5 := C129_eq h_4
      simp at c_5
      try simp [gP, gt, gr, gg, hm0, c_129, hm_0.copy, hm_0.elem, hb_1, nk_1, h_1, h_2, c_5]
      rcases cond_cases hp with ⟨h_6, hp⟩ | ⟨h_6, hp⟩
      · try simp at h_6
        obtain ⟨y_7, h_8, hp⟩ := bind_some hp
        have c_9 := C129_eq h_8
        simp at c_9
        try simp [gP, gt, gr, gg, hm0, c_129, hm_0.copy, hm_0.elem, hb_1, nk_1, h_1, h_2, h_6, c_9]
        rcases cond_cases hp with ⟨h_10, hp⟩ | ⟨h_10, hp⟩
        · try simp at h_10
          obtain ⟨y_11, h_12, hp⟩ := bind_some hp
          have c_13 := C132_eq h_12
          simp at c_13
          try simp [gP, gt, gr, gg, hm0, c_129, c_132, hm_0.copy, hm_0.elem, hb_1, nk_1, h_1, h_2, h_6, h_10, c_13]
          rcases cond_cases hp with ⟨h_14, hp⟩ | ⟨h_14, hp⟩
          · try simp at h_14
            try simp [gP, gt, gr, gg, hm0, c_129, c_132, hm_0.copy, hm_0.elem, hb_1, nk_1, h_1, h_2, h_6, h_10, h_14]
            rcases cond_cases hp with ⟨h_15, hp⟩ | ⟨h_15, hp⟩
            · try simp at h_15
              cases hp
              simp [Goal, FnEndI, memKill_hi, gP, gt, gr, gg, hm0, c_129, c_132, hm_0.copy, hm_0.elem, hb_1, nk_1, h_1, h_2, h_6, h_10, h_14, h_15, hT2]
            · try simp at h_15
              cases hp
              simp [Goal, FnEndI, memKill_hi, gP, gt, gr, gg, hm0, c_129, c_132, hm_0.copy, hm_0.elem, hb_1, nk_1, h_1, h_2, h_6, h_10, h_14, h_15, hT2]
          · try simp at h_14
            cases hp
            simp [Goal, FnEndI, memKill_hi, gP, gt, gr, gg, hm0, c_129, c_132, hm_0.copy, hm_0.elem, hb_1, nk_1, h_1, h_2, h_6, h_10, h_14, hT2]
        · try simp at h_10
          cases hp
          simp [Goal, FnEndI, memKill_hi, gP, gt, gr, gg, hm0, c_129, c_132, hm_0.copy, hm_0.elem, hb_1, nk_1, h_1, h_2, h_6, h_10, hT2]
      · try simp at h_6
        cases hp
        simp [Goal, FnEndI, memKill_hi, gP, gt, gr, gg, hm0, c_129, c_132, hm_0.copy, hm_0.elem, hb_1, nk_1, h_1, h_2, h_6, hT2]

noncomputable def C78 : List AV → Option AV := specP (X := Int × TStructure × Unit) fun x => impl_IsStructure x.1 x.2.1
theorem C78_eq {vars s} {y} (h : impl_IsStructure vars s = some y) : C78 [av .shr vars, av .shr s] = some (Res.res y) := specP_eq (X := Int × TStructure × Unit) (F := fun x => impl_IsStructure x.1 x.2.1) (x := (vars, s, ())) h
noncomputable def g78 : Cfg := { P := Try.prog, take := [], keep := [((127, 2), { hd := [0, 1, 7, 8], bx := [], ex := [], rt := [4] })], gho := [], ctx := [(49, C49), (129, C129), (132, C132)] }
@[simp] theorem g78_P : g78.P = Try.prog := rfl
@[simp] theorem g78_t : g78.take = [] := rfl
@[simp] theorem g78_g : g78.gho = [] := rfl
@[simp] theorem g78_r : g78.ro = [] := rfl
@[simp] theorem g78_w : g78.away = [] := by rw [g78]
@[simp] theorem g78_49 : lookN 49 g78.ctx = some C49 := rfl
@[simp] theorem g78_129 : lookN 129 g78.ctx = some C129 := rfl
@[simp] theorem g78_132 : lookN 132 g78.ctx = some C132 := rfl
@[simp] theorem g78_130 : lookN 130 g78.ctx = none := rfl
@[simp] theorem g78_127 : lookN 127 g78.ctx = none := rfl
@[simp] theorem g78_131 : lookN 131 g78.ctx = none := rfl
set_option maxHeartbeats 4000000 in
set_option maxRecDepth 100000 in
theorem w78 {vars s} {y} (hp : impl_IsStructure vars s = some y) : ∃ m, callo g78 0 78 [av .shr vars, av .shr s] mem0 = some (Res.res y, m) := by
  have G_130 : G130 g78 := ⟨rfl, by kernel_rfl, rfl, fun t => by simp, noAway (fun t => by simp) (by simp), fun i => by simp [lookK], by simp [g78, lookK], by simp⟩
  have G_127 : G127 g78 := ⟨rfl, by kernel_rfl, rfl, fun t => by simp, noAway (fun t => by simp) (by simp), fun i => by simp [lookK], by simp [g78, lookK], by simp⟩
  have G_131 : G131 g78 := ⟨rfl, by kernel_rfl, rfl, fun t => by simp, noAway (fun t => by simp) (by simp), fun i => by simp [lookK], by simp [g78, lookK], by simp⟩
  refine start_fn (Try.f78.body.getD .skip) [.tmp 4] rfl rfl Try.func78 (by kernel_rfl) (by kernel_rfl) (by simp [Try.ntmps78]) rfl ?_
  unfold impl_IsStructure at hp
  obtain ⟨y_1, h_2, hp⟩ := bind_some hp
  have c_3 := C49_eq h_2
  simp at c_3
  simp [Try.f78, c_3]
  rcases cond_cases hp with ⟨h_4, hp⟩ | ⟨h_4, hp⟩
  · try simp at h_4
    try simp [h_4]
    rcases cond_cases hp with ⟨h_5, hp⟩ | ⟨h_5, hp⟩
    · try simp at h_5
      cases hp
      simp [Goal, FnEnd, h_4, h_5]
    · try simp at h_5
      try simp [h_4, h_5]
      rcases cond_cases hp with ⟨h_6, hp⟩ | ⟨h_6, hp⟩
      · try simp at h_6
        cases hp
        simp [Goal, FnEnd, h_4, h_5, h_6]
      · try simp at h_6
        obtain ⟨y_7, h_8, hp⟩ := bind_some hp
        have c_9 := C129_eq h_8
        simp at c_9
        try simp [h_4, h_5, h_6, c_9]
        rcases cond_cases hp with ⟨h_10, hp⟩ | ⟨h_10, hp⟩
        · try simp at h_10
          obtain ⟨y_11, h_12, hp⟩ := bind_some hp
          try simp [h_4, h_5, h_6, h_10]
          refine goal_call [av .shr s.nodes, .one (.fn 131 [((1, 2), 0)])] (Res.res y_11) (by simp [h_4, h_5, h_6, h_10]) (wI130 G_130 G_127 (by repeat (first | exact tight_mem0 _ | exact hT.up | exact hT | (simp only [true_and]; done) | refine Tight.upd ?_ (by simp) (by simp))) (.inl rfl) (by simp) (clo1 (p := fun x0 => impl_IsStructure_1 x0 vars) fun d2 mem2 m0 x0 r2 hd2 ha2 hT2 hm0 hr2 => wI131 G_131 hT2 hm0 (show 1 ≤ d2 from hd2) ((ha2 _ (Nat.le_refl _)).trans (by simp [h_4, h_5, h_6, h_10])) hr2) h_12) ?_
          cases hp
          simp [Goal, FnEnd, h_4, h_5, h_6, h_10]
        · try simp at h_10
          cases hp
          simp [Goal, FnEnd, h_4, h_5, h_6, h_10]
  · try simp at h_4
    cases hp
    simp [Goal, FnEnd, h_4]
theorem pc78 : PC Try.prog 78 C78 := pc_of (g := g78) (ctxOK_of [(49, C49), (129, C129), (132, C132)] rfl ⟨pc49, pc129, pc132, trivial⟩) ⟨Try.f78, Try.func78, by kernel_rfl, by kernel_rfl⟩ fun x y h => w78 h

noncomputable def C133 : List AV → Option AV := specP (X := TNode × Unit) fun x => impl_Node_own x.1
theorem C133_eq {x_} {y} (h : impl_Node_own x_ = some y) : C133 [av .shr x_] = some (Res.res y) := specP_eq (X := TNode × Unit) (F := fun x => impl_Node_own x.1) (x := (x_, ())) h
noncomputable def g133 : Cfg := { P := Try.prog, take := [], keep := [], gho := [], ctx := [(106, C106)] }
@[simp] theorem g133_P : g133.P = Try.prog := rfl
@[simp] theorem g133_t : g133.take = [] := rfl
@[simp] theorem g133_g : g133.gho = [] := rfl
@[simp] theorem g133_r : g133.ro = [] := rfl
@[simp] theorem g133_w : g133.away = [] := by rw [g133]
@[simp] theorem g133_106 : lookN 106 g133.ctx = some C106 := rfl
set_option maxHeartbeats 4000000 in
set_option maxRecDepth 100000 in
theorem w133 {x_} {y} (hp : impl_Node_own x_ = some y) : ∃ m, callo g133 0 133 [av .shr x_] mem0 = some (Res.res y, m) := by
  refine start_fn (Try.f133.body.getD .skip) [.cell 2 104] rfl rfl Try.func133 (by kernel_rfl) (by kernel_rfl) (by simp [Try.ntmps133]) rfl ?_
  unfold impl_Node_own at hp
  obtain ⟨y_1, h_2, hp⟩ := bind_some hp
  have c_3 := C106_eq h_2
  simp at c_3
  obtain ⟨y_4, h_5, hp⟩ := bind_some hp
  have c_6 := C106_eq h_5
  simp at c_6
  cases hp
  simp [Try.f133, Goal, FnEnd, retR, rsrc, RSrc.val, nodupR, nodup, tupPart, c_3, c_6]
theorem pc133 : PC Try.prog 133 C133 := pc_of (g := g133) (ctxOK_of [(106, C106)] rfl ⟨pc106, trivial⟩) ⟨Try.f133, Try.func133, by kernel_rfl, by kernel_rfl⟩ fun x y h => w133 h

noncomputable def C80 : List AV → Option AV := specP (X := TStructure × Unit) fun x => impl_Structure_own x.1
theorem C80_eq {s} {y} (h : impl_Structure_own s = some y) : C80 [av .shr s] = some (Res.res y) := specP_eq (X := TStructure × Unit) (F := fun x => impl_Structure_own x.1) (x := (s, ())) h
noncomputable def g80 : Cfg := { P := Try.prog, take := [(80, 18), (80, 25)], keep := [((80, 3), { hd := [2, 3, 11, 12, 13], bx := [5], ex := [2, 3], rt := [2] })], gho := [], ctx := [(106, C106), (133, C133)] }
@[simp] theorem g80_P : g80.P = Try.prog := rfl
@[simp] theorem g80_t : g80.take = [(80, 18), (80, 25)] := rfl
@[simp] theorem g80_g : g80.gho = [] := rfl
@[simp] theorem g80_r : g80.ro = [] := rfl
@[simp] theorem g80_w : g80.away = [] := by rw [g80]
@[simp] theorem g80_106 : lookN 106 g80.ctx = some C106 := rfl
@[simp] theorem g80_133 : lookN 133 g80.ctx = some C133 := rfl
set_option maxHeartbeats 4000000 in
set_option maxRecDepth 100000 in
theorem w80 {s} {y} (hp : impl_Structure_own s = some y) : ∃ m, callo g80 0 80 [av .shr s] mem0 = some (Res.res y, m) := by
  refine start_fn (Try.f80.body.getD .skip) [.cell 2 52] rfl rfl Try.func80 (by kernel_rfl) (by kernel_rfl) (by simp [Try.ntmps80]) rfl ?_
  unfold impl_Structure_own at hp
  obtain ⟨y_1, h_2, hp⟩ := bind_some hp
  have c_3 := C106_eq h_2
  simp at c_3
  simp [Try.f80, c_3]
  obtain ⟨r_30, h_31, hp⟩ := bind_some hp
  obtain ⟨I_6, I_6_⟩ : ∃ I : Int × (List TNode) → St → Prop, I = (fun (s_4 : Int × (List TNode)) (σ : St) => σ.env 2 = .one (.ptr (1, 2) 0) ∧ σ.env 3 = .one (.ptr (1, 3) 0) ∧ σ.env 11 = .one (.l .shr s.nodes.length (encL s.nodes)) ∧ σ.env 12 = .one (.s (.int .i64 (s.nodes.length : Int))) ∧ σ.env 13 = .one (.s (.int .i64 s_4.1)) ∧ σ.mem (1, 1) = some [(.l .shr s.nodes.length (encL s.nodes)), (.l .shr s.next.length (encL s.next))] ∧ σ.mem (1, 2) = some [(.l .own 0 []), (.l .own 0 [])] ∧ σ.mem (1, 3) = some [(.l .own s_4.2.length (encL s_4.2)), (.l .own y_1.length (encL y_1))] ∧ NoBox [(1, 1), (1, 2), (1, 3)] σ.mem) := ⟨_, rfl⟩
  obtain ⟨X_7, X_7_⟩ : ∃ X : (List TNode) → Out → Prop, X = (fun (r_30 : (List TNode)) (out : Out) => ∃ σ : St, out = .exit 0 σ ∧ σ.env 2 = .one (.ptr (1, 2) 0) ∧ σ.env 3 = .one (.ptr (1, 3) 0) ∧ σ.mem (1, 1) = some [(.l .shr s.nodes.length (encL s.nodes)), (.l .shr s.next.length (encL s.next))] ∧ σ.mem (1, 2) = some [(.l .own 0 []), (.l .own 0 [])] ∧ σ.mem (1, 3) = some [(.l .own r_30.length (encL r_30)), (.l .own y_1.length (encL y_1))] ∧ NoBox [(1, 1), (1, 2), (1, 3)] σ.mem) := ⟨_, rfl⟩
  refine loopP ({ hd := [2, 3, 11, 12, 13], bx := [5], ex := [2, 3], rt := [2] }) I_6 X_7 h_31 (by exact rfl) ?_ ?_ ?_
  · rw [I_6_]
    exact ⟨by simp [restrict_env], by simp [restrict_env], by simp [restrict_env], by simp [restrict_env], by simp [restrict_env], by simp [restrict_mem], by simp [restrict_mem], by simp [restrict_mem], NoBox.restrict (by intro k hk hb; simp at hk hb; simp [hk, hb])⟩
  · intro s_4 σ_8 a_5 hI hp
    rw [I_6_] at hI
    obtain ⟨q_9, q_10, q_11, q_12, q_13, q_14, q_15, q_16, hn_17⟩ := hI
    try simp [q_9, q_10, q_11, q_12, q_13, q_14, q_15, q_16]
    rcases cond_cases hp with ⟨h_18, hp⟩ | ⟨h_18, hp⟩
    · try simp at h_18
      obtain ⟨e_19, h_20, hp⟩ := bind_some hp
      have b_21 := at_lo h_20
      have b_22 := at_hi h_20
      try simp at b_21
      try simp at b_22
      have c_23 := seg_at' h_20 0 4 (by decide) (ds := [.sl e_19.vars.length (encL e_19.vars), .sl e_19.reach.length (encL e_19.reach), .sc (.int .i64 e_19.shared), .sc (.int .i64 e_19.many)]) rfl
      try simp at c_23
      have n_24 := hn_17 (1, 5) (by simp)
      obtain ⟨y_25, h_26, hp⟩ := bind_some hp
      have c_27 := C133_eq h_26
      simp at c_27
      obtain ⟨_, h_28, hp⟩ := bind_some hp
      have b_29 := room_ok h_28
      try simp at b_29
      cases hp
      try simp [q_9, q_10, q_11, q_12, q_13, q_14, q_15, q_16, h_18, b_21, b_22, c_23, n_24, c_27, b_29]
      refine goal_next ?_
      rw [I_6_]
      exact ⟨by simp [restrict_env, q_9, q_10, q_11, q_12, q_13, q_14, q_15, q_16, h_18, b_21, b_22, c_23, n_24, c_27, b_29], by simp [restrict_env, q_9, q_10, q_11, q_12, q_13, q_14, q_15, q_16, h_18, b_21, b_22, c_23, n_24, c_27, b_29], by simp [restrict_env, q_9, q_10, q_11, q_12, q_13, q_14, q_15, q_16, h_18, b_21, b_22, c_23, n_24, c_27, b_29], by simp [restrict_env, q_9, q_10, q_11, q_12, q_13, q_14, q_15, q_16, h_18, b_21, b_22, c_23, n_24, c_27, b_29], by simp [restrict_env, q_9, q_10, q_11, q_12, q_13, q_14, q_15, q_16, h_18, b_21, b_22, c_23, n_24, c_27, b_29], by simp [restrict_mem, q_9, q_10, q_11, q_12, q_13, q_14, q_15, q_16, h_18, b_21, b_22, c_23, n_24, c_27, b_29], by simp [restrict_mem, q_9, q_10, q_11, q_12, q_13, q_14, q_15, q_16, h_18, b_21, b_22, c_23, n_24, c_27, b_29], by simp [restrict_mem, q_9, q_10, q_11, q_12, q_13, q_14, q_15, q_16, h_18, b_21, b_22, c_23, n_24, c_27, b_29], NoBox.restrict (by intro k hk hb; simp at hk hb; simp [hk, hb, q_9, q_10, q_11, q_12, q_13, q_14, q_15, q_16, h_18, b_21, b_22, c_23, n_24, c_27, b_29, hn_17 k (by simp [hk, hb])])⟩
    · try simp at h_18
      cases hp
      try simp [q_9, q_10, q_11, q_12, q_13, q_14, q_15, q_16, h_18]
      refine goal_outX ?_
      rw [X_7_]
      exact ⟨_, rfl, by simp [restrict_env, q_9, q_10, q_11, q_12, q_13, q_14, q_15, q_16, h_18], by simp [restrict_env, q_9, q_10, q_11, q_12, q_13, q_14, q_15, q_16, h_18], by simp [restrict_mem, q_9, q_10, q_11, q_12, q_13, q_14, q_15, q_16, h_18], by simp [restrict_mem, q_9, q_10, q_11, q_12, q_13, q_14, q_15, q_16, h_18], by simp [restrict_mem, q_9, q_10, q_11, q_12, q_13, q_14, q_15, q_16, h_18], NoBox.restrict (by intro k hk hb; simp at hk hb; simp [hk, hb, q_9, q_10, q_11, q_12, q_13, q_14, q_15, q_16, h_18, hn_17 k (by simp [hk, hb])])⟩
  · intro out hX
    rw [X_7_] at hX
    obtain ⟨σ_32, rfl, q_33, q_34, q_35, q_36, q_37, hn_38⟩ := hX
    cases hp
    simp [Goal, FnEnd, retR, rsrc, RSrc.val, nodupR, nodup, tupPart, q_33, q_34, q_35, q_36, q_37]
theorem pc80 : PC Try.prog 80 C80 := pc_of (g := g80) (ctxOK_of [(106, C106), (133, C133)] rfl ⟨pc106, pc133, trivial⟩) ⟨Try.f80, Try.func80, by kernel_rfl, by kernel_rfl⟩ fun x y h => w80 h

noncomputable def C135 : List AV → Option AV := specP (X := Bool × Unit) fun x => impl_truthOf x.1
theorem C135_eq {b_} {y} (h : impl_truthOf b_ = some y) : C135 [av .shr b_] = some (Res.res y) := specP_eq (X := Bool × Unit) (F := fun x => impl_truthOf x.1) (x := (b_, ())) h
noncomputable def g135 : Cfg := { P := Try.prog, take := [], keep := [], gho := [], ctx := [] }
@[simp] theorem g135_P : g135.P = Try.prog := rfl
@[simp] theorem g135_t : g135.take = [] := rfl
@[simp] theorem g135_g : g135.gho = [] := rfl
@[simp] theorem g135_r : g135.ro = [] := rfl
@[simp] theorem g135_w : g135.away = [] := by rw [g135]
set_option maxHeartbeats 4000000 in
set_option maxRecDepth 100000 in
theorem w135 {b_} {y} (hp : impl_truthOf b_ = some y) : ∃ m, callo g135 0 135 [av .shr b_] mem0 = some (Res.res y, m) := by
  refine start_fn (Try.f135.body.getD .skip) [.tmp 2] rfl rfl Try.func135 (by kernel_rfl) (by kernel_rfl) (by simp [Try.ntmps135]) rfl ?_
  unfold impl_truthOf at hp
  simp [Try.f135]
  rcases cond_cases hp with ⟨h_1, hp⟩ | ⟨h_1, hp⟩
  · try simp at h_1
    cases hp
    simp [Goal, FnEnd, h_1]
  · try simp at h_1
    cases hp
    simp [Goal, FnEnd, h_1]
theorem pc135 : PC Try.prog 135 C135 := pc_of (g := g135) (fun f F h => by cases h) ⟨Try.f135, Try.func135, by kernel_rfl, by kernel_rfl⟩ fun x y h => w135 h

noncomputable def C82 : List AV → Option AV := specP (X := TStructure × Int × Int × Unit) fun x => impl_pointing x.1 x.2.1 x.2.2.1
theorem C82_eq {s b_ target} {y} (h : impl_pointing s b_ target = some y) : C82 [av .shr s, av .shr b_, av .shr target] = some (Res.res y) := specP_eq (X := TStructure × Int × Int × Unit) (F := fun x => impl_pointing x.1 x.2.1 x.2.2.1) (x := (s, b_, target, ())) h
noncomputable def g82 : Cfg := { P := Try.prog, take := [], keep := [((82, 4), { hd := [1, 2, 6, 7, 8, 15, 16], bx := [], ex := [2, 6, 7], rt := [6] })], gho := [((82, atEnd), [.frz (.at 6 0), .frz (.at 6 1)]), ((82, 2000001), [.thaw (.at 7 0) 1112 4, .thaw (.at 7 1) 1113 1])], ctx := [(80, C80), (135, C135)] }
@[simp] theorem g82_P : g82.P = Try.prog := rfl
@[simp] theorem g82_t : g82.take = [] := rfl
@[simp] theorem g82_g : g82.gho = [((82, atEnd), [.frz (.at 6 0), .frz (.at 6 1)]), ((82, 2000001), [.thaw (.at 7 0) 1112 4, .thaw (.at 7 1) 1113 1])] := rfl
@[simp] theorem g82_r : g82.ro = [] := rfl
@[simp] theorem g82_w : g82.away = [] := by rw [g82]
@[simp] theorem g82_80 : lookN 80 g82.ctx = some C80 := rfl
@[simp] theorem g82_135 : lookN 135 g82.ctx = some C135 := rfl
set_option maxHeartbeats 4000000 in
set_option maxRecDepth 100000 in
theorem w82 {s b_ target} {y} (hp : impl_pointing s b_ target = some y) : ∃ m, callo g82 0 82 [av .shr s, av .shr b_, av .shr target] mem0 = some (Res.res y, m) := by
  refine start_fn (Try.f82.body.getD .skip) [.cell 6 52] rfl rfl Try.func82 (by kernel_rfl) (by kernel_rfl) (by simp [Try.ntmps82]) rfl ?_
  unfold impl_pointing at hp
  obtain ⟨y_1, h_2, hp⟩ := bind_some hp
  have c_3 := C80_eq h_2
  simp at c_3
  simp [Try.f82, c_3]
  try simp
  try simp
  obtain ⟨r_32, h_33, hp⟩ := bind_some hp
  obtain ⟨I_6, I_6_⟩ : ∃ I : Int × (List Int) → St → Prop, I = (fun (s_4 : Int × (List Int)) (σ : St) => σ.env 1 = .one (.s (.int .i64 b_)) ∧ σ.env 2 = .one (.s (.int .i64 target)) ∧ σ.env 6 = .one (.ptr (1, 6) 0) ∧ σ.env 7 = .one (.ptr (1, 7) 0) ∧ σ.env 8 = .one (.s (.int .i64 (y_1.nodes.length : Int))) ∧ σ.env 15 = .one (.s (.int .i64 (y_1.nodes.length : Int))) ∧ σ.env 16 = .one (.s (.int .i64 s_4.1)) ∧ σ.mem (1, 3) = some [(.l .shr s.nodes.length (encL s.nodes)), (.l .shr s.next.length (encL s.next))] ∧ σ.mem (1, 6) = some [(.l .own 0 []), (.l .own 0 [])] ∧ σ.mem (1, 7) = some [(.bs (1, 1112) y_1.nodes.length 4), (.bs (1, 1113) s_4.2.length 1)] ∧ σ.mem (1, 1112) = some (rowC y_1.nodes) ∧ σ.mem (1, 1113) = some (rowC s_4.2) ∧ NoBox [(1, 3), (1, 6), (1, 7), (1, 1112), (1, 1113)] σ.mem) := ⟨_, rfl⟩
  obtain ⟨X_7, X_7_⟩ : ∃ X : (List Int) → Out → Prop, X = (fun (r_32 : (List Int)) (out : Out) => ∃ σ : St, out = .exit 0 σ ∧ σ.env 2 = .one (.s (.int .i64 target)) ∧ σ.env 6 = .one (.ptr (1, 6) 0) ∧ σ.env 7 = .one (.ptr (1, 7) 0) ∧ σ.mem (1, 3) = some [(.l .shr s.nodes.length (encL s.nodes)), (.l .shr s.next.length (encL s.next))] ∧ σ.mem (1, 6) = some [(.l .own 0 []), (.l .own 0 [])] ∧ σ.mem (1, 7) = some [(.bs (1, 1112) y_1.nodes.length 4), (.bs (1, 1113) r_32.length 1)] ∧ σ.mem (1, 1112) = some (rowC y_1.nodes) ∧ σ.mem (1, 1113) = some (rowC r_32) ∧ NoBox [(1, 3), (1, 6), (1, 7), (1, 1112), (1, 1113)] σ.mem) := ⟨_, rfl⟩
  refine loopP ({ hd := [1, 2, 6, 7, 8, 15, 16], bx := [], ex := [2, 6, 7], rt := [6] }) I_6 X_7 h_33 (by exact rfl) ?_ ?_ ?_
  · rw [I_6_]
    exact ⟨by simp [restrict_env], by simp [restrict_env], by simp [restrict_env], by simp [restrict_env], by simp [restrict_env], by simp [restrict_env], by simp [restrict_env], by simp [restrict_mem], by simp [restrict_mem], by simp [restrict_mem], by simp [restrict_mem], by simp [restrict_mem], NoBox.restrict (by intro k hk hb; simp at hk hb; simp [hk, hb])⟩
  · intro s_4 σ_8 a_5 hI hp
    rw [I_6_] at hI
    obtain ⟨q_9, q_10, q_11, q_12, q_13, q_14, q_15, q_16, q_17, q_18, q_19, q_20, hn_21⟩ := hI
    try simp [q_9, q_10, q_11, q_12, q_13, q_14, q_15, q_16, q_17, q_18, q_19, q_20]
    rcases cond_cases hp with ⟨h_22, hp⟩ | ⟨h_22, hp⟩
    · try simp at h_22
      obtain ⟨y_23, h_24, hp⟩ := bind_some hp
      have c_25 := C135_eq h_24
      simp at c_25
      obtain ⟨e_26, h_27, hp⟩ := bind_some hp
      have b_28 := at_lo h_27
      have b_29 := at_hi h_27
      try simp at b_28
      try simp at b_29
      have c_30 := splice_row h_27 0 y_23 [(.s (.int .i64 y_23))] (by simp) rfl
      try simp at c_30
      have l_31 := row_room h_27 0 (m := 1) (by decide)
      try simp at l_31
      cases hp
      try simp [q_9, q_10, q_11, q_12, q_13, q_14, q_15, q_16, q_17, q_18, q_19, q_20, h_22, c_25, b_28, b_29, c_30, l_31]
      refine goal_next ?_
      rw [I_6_]
      exact ⟨by simp [restrict_env, q_9, q_10, q_11, q_12, q_13, q_14, q_15, q_16, q_17, q_18, q_19, q_20, h_22, c_25, b_28, b_29, c_30, l_31], by simp [restrict_env, q_9, q_10, q_11, q_12, q_13, q_14, q_15, q_16, q_17, q_18, q_19, q_20, h_22, c_25, b_28, b_29, c_30, l_31], by simp [restrict_env, q_9, q_10, q_11, q_12, q_13, q_14, q_15, q_16, q_17, q_18, q_19, q_20, h_22, c_25, b_28, b_29, c_30, l_31], by simp [restrict_env, q_9, q_10, q_11, q_12, q_13, q_14, q_15, q_16, q_17, q_18, q_19, q_20, h_22, c_25, b_28, b_29, c_30, l_31], by simp [restrict_env, q_9, q_10, q_11, q_12, q_13, q_14, q_15, q_16, q_17, q_18, q_19, q_20, h_22, c_25, b_28, b_29, c_30, l_31], by simp [restrict_env, q_9, q_10, q_11, q_12, q_13, q_14, q_15, q_16, q_17, q_18, q_19, q_20, h_22, c_25, b_28, b_29, c_30, l_31], by simp [restrict_env, q_9, q_10, q_11, q_12, q_13, q_14, q_15, q_16, q_17, q_18, q_19, q_20, h_22, c_25, b_28, b_29, c_30, l_31], by simp [restrict_mem, q_9, q_10, q_11, q_12, q_13, q_14, q_15, q_16, q_17, q_18, q_19, q_20, h_22, c_25, b_28, b_29, c_30, l_31], by simp [restrict_mem, q_9, q_10, q_11, q_12, q_13, q_14, q_15, q_16, q_17, q_18, q_19, q_20, h_22, c_25, b_28, b_29, c_30, l_31], by simp [restrict_mem, q_9, q_10, q_11, q_12, q_13, q_14, q_15, q_16, q_17, q_18, q_19, q_20, h_22, c_25, b_28, b_29, c_30, l_31], by simp [restrict_mem, q_9, q_10, q_11, q_12, q_13, q_14, q_15, q_16, q_17, q_18, q_19, q_20, h_22, c_25, b_28, b_29, c_30, l_31], by simp [restrict_mem, q_9, q_10, q_11, q_12, q_13, q_14, q_15, q_16, q_17, q_18, q_19, q_20, h_22, c_25, b_28, b_29, c_30, l_31], NoBox.restrict (by intro k hk hb; simp at hk hb; simp [hk, hb, q_9, q_10, q_11, q_12, q_13, q_14, q_15, q_16, q_17, q_18, q_19, q_20, h_22, c_25, b_28, b_29, c_30, l_31, hn_21 k (by simp [hk, hb])])⟩
    · try simp at h_22
      cases hp
      try simp [q_9, q_10, q_11, q_12, q_13, q_14, q_15, q_16, q_17, q_18, q_19, q_20, h_22]
      refine goal_outX ?_
      rw [X_7_]
      exact ⟨_, rfl, by simp [restrict_env, q_9, q_10, q_11, q_12, q_13, q_14, q_15, q_16, q_17, q_18, q_19, q_20, h_22], by simp [restrict_env, q_9, q_10, q_11, q_12, q_13, q_14, q_15, q_16, q_17, q_18, q_19, q_20, h_22], by simp [restrict_env, q_9, q_10, q_11, q_12, q_13, q_14, q_15, q_16, q_17, q_18, q_19, q_20, h_22], by simp [restrict_mem, q_9, q_10, q_11, q_12, q_13, q_14, q_15, q_16, q_17, q_18, q_19, q_20, h_22], by simp [restrict_mem, q_9, q_10, q_11, q_12, q_13, q_14, q_15, q_16, q_17, q_18, q_19, q_20, h_22], by simp [restrict_mem, q_9, q_10, q_11, q_12, q_13, q_14, q_15, q_16, q_17, q_18, q_19, q_20, h_22], by simp [restrict_mem, q_9, q_10, q_11, q_12, q_13, q_14, q_15, q_16, q_17, q_18, q_19, q_20, h_22], by simp [restrict_mem, q_9, q_10, q_11, q_12, q_13, q_14, q_15, q_16, q_17, q_18, q_19, q_20, h_22], NoBox.restrict (by intro k hk hb; simp at hk hb; simp [hk, hb, q_9, q_10, q_11, q_12, q_13, q_14, q_15, q_16, q_17, q_18, q_19, q_20, h_22, hn_21 k (by simp [hk, hb])])⟩
  · intro out hX
    rw [X_7_] at hX
    obtain ⟨σ_34, rfl, q_35, q_36, q_37, q_38, q_39, q_40, q_41, q_42, hn_43⟩ := hX
    try simp [q_35, q_36, q_37, q_38, q_39, q_40, q_41, q_42]
    rcases cond_cases hp with ⟨h_44, hp⟩ | ⟨h_44, hp⟩
    · try simp at h_44
      obtain ⟨e_45, h_46, hp⟩ := bind_some hp
      have b_47 := at_lo h_46
      have b_48 := at_hi h_46
      try simp at b_47
      try simp at b_48
      have c_49 := splice_row h_46 3 (⟨e_45.vars, e_45.reach, e_45.shared, 0⟩ : TNode) [(.s (.int .i64 0))] (by simp) rfl
      try simp at c_49
      have l_50 := row_room h_46 3 (m := 1) (by decide)
      try simp at l_50
      cases hp
      simp [Goal, FnEnd, retR, rsrc, RSrc.val, nodupR, nodup, tupPart, q_35, q_36, q_37, q_38, q_39, q_40, q_41, q_42, h_44, b_47, b_48, c_49, l_50]
    · try simp at h_44
      cases hp
      simp [Goal, FnEnd, retR, rsrc, RSrc.val, nodupR, nodup, tupPart, q_35, q_36, q_37, q_38, q_39, q_40, q_41, q_42, h_44]
theorem pc82 : PC Try.prog 82 C82 := pc_of (g := g82) (ctxOK_of [(80, C80), (135, C135)] rfl ⟨pc80, pc135, trivial⟩) ⟨Try.f82, Try.func82, by kernel_rfl, by kernel_rfl⟩ fun x y h => w82 h

abbrev G136 (g : Cfg) : Prop := Has Try.prog g 136 Try.f136 [] [] [] []
set_option maxHeartbeats 4000000 in
set_option maxRecDepth 100000 in
theorem wI136 {g : Cfg} (G : G136 g) {d : Nat} {mem : Mem} (hT : Tight d mem) {K_1 : Key} {K_2 : Key} {i : Int} {c0 : Int} {c1 : Int} (hk_1 : K_1.1 ≤ d) (hb_1 : mem K_1 = some [(.s (.int .i64 c0))]) (hk_2 : K_2.1 ≤ d) (hb_2 : mem K_2 = some [(.s (.int .i64 c1))]) {y} (hp : impl_divided_1 i c0 c1 = some y) : callo g d 136 [av .shr i, .one (.ptr K_1 0), .one (.ptr K_2 0)] mem = some (Res.res y, mem) := by
  have gP := G.P; have gt := G.tk; have gr := G.ro; have gg := G.gh
  have hT2 : memKill (fun k => decide (d < k.1)) mem = mem := hT
  have nk_1 : ∀ t, (K_1 = (d + 1, t)) = False := fun t => by simp; intro h; rw [h] at hk_1; simp at hk_1; omega
  have nk_2 : ∀ t, (K_2 = (d + 1, t)) = False := fun t => by simp; intro h; rw [h] at hk_2; simp at hk_2; omega
  refine start_in (Try.f136.body.getD .skip) [.tmp 4] G Try.func136 (by kernel_rfl) (by simp [Try.ntmps136]) rfl ?_
  unfold impl_divided_1 at hp
  simp [Try.f136, gP, gt, gr, gg, hb_1, nk_1, hb_2, nk_2]
  rcases cond_cases hp with ⟨h_1, hp⟩ | ⟨h_1, hp⟩
  · try simp at h_1
    cases hp
    simp [Goal, FnEndI, memKill_hi, gP, gt, gr, gg, hb_1, nk_1, hb_2, nk_2, h_1, hT2]
  · try simp at h_1
    cases hp
    simp [Goal, FnEndI, memKill_hi, gP, gt, gr, gg, hb_1, nk_1, hb_2, nk_2, h_1, hT2]

noncomputable def C83 : List AV → Option AV := specP (X := TStructure × Int × Unit) fun x => impl_divided x.1 x.2.1
theorem C83_eq {s t} {y} (h : impl_divided s t = some y) : C83 [av .shr s, av .shr t] = some (Res.res y) := specP_eq (X := TStructure × Int × Unit) (F := fun x => impl_divided x.1 x.2.1) (x := (s, t, ())) h
noncomputable def g83 : Cfg := { P := Try.prog, take := [(83, 21), (83, 39), (83, 53)], keep := [((83, 4), { hd := [2, 4, 5, 6, 7, 16, 17], bx := [], ex := [4, 5], rt := [4] }), ((83, 8), { hd := [2, 4, 5, 6, 7, 8, 16, 17, 34, 35], bx := [], ex := [2, 4, 5, 6, 7, 16, 17], rt := [4] })], gho := [], ctx := [(81, C81), (133, C133)], ro := [(83, 26), (83, 43), (83, 46)], away := [(83, 12, 5)] }
@[simp] theorem g83_P : g83.P = Try.prog := rfl
@[simp] theorem g83_t : g83.take = [(83, 21), (83, 39), (83, 53)] := rfl
@[simp] theorem g83_g : g83.gho = [] := rfl
@[simp] theorem g83_r : g83.ro = [(83, 26), (83, 43), (83, 46)] := rfl
@[simp] theorem g83_w : g83.away = [(83, 12, 5)] := by rw [g83]
@[simp] theorem g83_wa (d f dst key) : awayB g83 d f dst key = awayL [(83, 12, 5)] d f dst key := rfl
@[simp] theorem g83_wl (d f a key) : lateB g83 d f a key = lateL [(83, 12, 5)] d f a key := rfl
@[simp] theorem g83_81 : lookN 81 g83.ctx = some C81 := rfl
@[simp] theorem g83_133 : lookN 133 g83.ctx = some C133 := rfl
@[simp] theorem g83_136 : lookN 136 g83.ctx = none := rfl
set_option maxHeartbeats 4000000 in
set_option maxRecDepth 100000 in
theorem w83 {s t} {y} (hp : impl_divided s t = some y) : ∃ m, callo g83 0 83 [av .shr s, av .shr t] mem0 = some (Res.res y, m) := by
  have G_136 : G136 g83 := ⟨rfl, by kernel_rfl, rfl, fun t => by simp, noAway (fun t => by simp) (by simp), fun i => by simp [lookK], by simp [g83, lookK], by simp⟩
  refine start_fn (Try.f83.body.getD .skip) [.cell 4 52] rfl rfl Try.func83 (by kernel_rfl) (by kernel_rfl) (by simp [Try.ntmps83]) rfl ?_
  unfold impl_divided at hp
  simp [Try.f83]
  obtain ⟨r_82, h_83, hp⟩ := bind_some hp
  obtain ⟨I_3, I_3_⟩ : ∃ I : Int × (List TNode) × (List Int) → St → Prop, I = (fun (s_1 : Int × (List TNode) × (List Int)) (σ : St) => σ.env 2 = .one (.ptr (1, 2) 0) ∧ σ.env 4 = .one (.ptr (1, 4) 0) ∧ σ.env 5 = .one (.ptr (1, 5) 0) ∧ σ.env 6 = .one (.ptr (1, 6) 0) ∧ σ.env 7 = .one (.fn 136 [((1, 6), 0), ((1, 3), 0)]) ∧ σ.env 16 = .one (.s (.int .i64 (addI (s.nodes.length : Int) 1))) ∧ σ.env 17 = .one (.s (.int .i64 s_1.1)) ∧ σ.mem (1, 2) = some [(.l .shr s.nodes.length (encL s.nodes)), (.l .shr s.next.length (encL s.next))] ∧ σ.mem (1, 3) = some [(.s (.int .i64 t))] ∧ σ.mem (1, 4) = some [(.l .own 0 []), (.l .own 0 [])] ∧ σ.mem (1, 5) = some [(.l .own s_1.2.1.length (encL s_1.2.1)), (.l .own s_1.2.2.length (encL s_1.2.2))] ∧ σ.mem (1, 6) = some [(.s (.int .i64 (s.nodes.length : Int)))] ∧ Tight (1) σ.mem ∧ NoBox [(1, 2), (1, 3), (1, 4), (1, 5), (1, 6)] σ.mem) := ⟨_, rfl⟩
  obtain ⟨X_4, X_4_⟩ : ∃ X : ((List TNode) × (List Int)) → Out → Prop, X = (fun (r_82 : (List TNode) × (List Int)) (out : Out) => ∃ σ : St, out = .exit 0 σ ∧ σ.env 4 = .one (.ptr (1, 4) 0) ∧ σ.env 5 = .one (.ptr (1, 5) 0) ∧ σ.mem (1, 2) = some [(.l .shr s.nodes.length (encL s.nodes)), (.l .shr s.next.length (encL s.next))] ∧ σ.mem (1, 3) = some [(.s (.int .i64 t))] ∧ σ.mem (1, 4) = some [(.l .own 0 []), (.l .own 0 [])] ∧ σ.mem (1, 5) = some [(.l .own r_82.1.length (encL r_82.1)), (.l .own r_82.2.length (encL r_82.2))] ∧ σ.mem (1, 6) = some [(.s (.int .i64 (s.nodes.length : Int)))] ∧ Tight (1) σ.mem ∧ NoBox [(1, 2), (1, 3), (1, 4), (1, 5), (1, 6)] σ.mem) := ⟨_, rfl⟩
  refine loopP ({ hd := [2, 4, 5, 6, 7, 16, 17], bx := [], ex := [4, 5], rt := [4] }) I_3 X_4 h_83 (by exact rfl) ?_ ?_ ?_
  · rw [I_3_]
    exact ⟨by simp [restrict_env], by simp [restrict_env], by simp [restrict_env], by simp [restrict_env], by simp [restrict_env], by simp [restrict_env], by simp [restrict_env], by simp [restrict_mem], by simp [restrict_mem], by simp [restrict_mem], by simp [restrict_mem], by simp [restrict_mem], (by repeat (first | exact tight_mem0 _ | exact hT.up | exact hT | refine Tight.restrict ?_ | refine Tight.upd ?_ (by simp) (by simp))), NoBox.restrict (by intro k hk hb; simp at hk hb; simp [hk, hb])⟩
  · intro s_1 σ_5 a_2 hI hp
    rw [I_3_] at hI
    obtain ⟨q_6, q_7, q_8, q_9, q_10, q_11, q_12, q_13, q_14, q_15, q_16, q_17, ht_18, hn_19⟩ := hI
    try simp [q_6, q_7, q_8, q_9, q_10, q_11, q_12, q_13, q_14, q_15, q_16, q_17]
    rcases cond_cases hp with ⟨h_20, hp⟩ | ⟨h_20, hp⟩
    · try simp at h_20
      obtain ⟨y_21, h_22, hp⟩ := bind_some hp
      try simp [q_6, q_7, q_8, q_9, q_10, q_11, q_12, q_13, q_14, q_15, q_16, q_17, h_20]
      refine goal_callRo [av .shr s_1.1, .one (.ptr (1, 6) 0), .one (.ptr (1, 3) 0)] (Res.res y_21) (by kernel_rfl) (by simp [q_6, q_7, q_8, q_9, q_10, q_11, q_12, q_13, q_14, q_15, q_16, q_17, h_20]) (wI136 G_136 (by repeat (first | exact ht_18 | exact tight_mem0 _ | exact hT.up | exact hT | (simp only [q_6, q_7, q_8, q_9, q_10, q_11, q_12, q_13, q_14, q_15, q_16, q_17]; done) | refine Tight.upd ?_ (by simp) (by simp))) (by simp) (by simp [q_6, q_7, q_8, q_9, q_10, q_11, q_12, q_13, q_14, q_15, q_16, q_17, h_20]) (by simp) (by simp [q_6, q_7, q_8, q_9, q_10, q_11, q_12, q_13, q_14, q_15, q_16, q_17, h_20]) h_22) ?_
      obtain ⟨e_23, h_24, hp⟩ := bind_some hp
      have b_25 := at_lo h_24
      have b_26 := at_hi h_24
      try simp at b_25
      try simp at b_26
      have c_27 := seg_at' h_24 0 4 (by decide) (ds := [.sl e_23.vars.length (encL e_23.vars), .sl e_23.reach.length (encL e_23.reach), .sc (.int .i64 e_23.shared), .sc (.int .i64 e_23.many)]) rfl
      try simp at c_27
      obtain ⟨y_28, h_29, hp⟩ := bind_some hp
      have c_30 := C133_eq h_29
      simp at c_30
      obtain ⟨_, h_31, hp⟩ := bind_some hp
      have b_32 := room_ok h_31
      try simp at b_32
      try simp [q_6, q_7, q_8, q_9, q_10, q_11, q_12, q_13, q_14, q_15, q_16, q_17, h_20, b_25, b_26, c_27, c_30, b_32]
      obtain ⟨r_65, h_66, hp⟩ := bind_some hp
      obtain ⟨I_35, I_35_⟩ : ∃ I : Int × (List Int) → St → Prop, I = (fun (s_33 : Int × (List Int)) (σ : St) => σ.env 2 = .one (.ptr (1, 2) 0) ∧ σ.env 4 = .one (.ptr (1, 4) 0) ∧ σ.env 5 = .one (.ptr (1, 5) 0) ∧ σ.env 6 = .one (.ptr (1, 6) 0) ∧ σ.env 7 = .one (.fn 136 [((1, 6), 0), ((1, 3), 0)]) ∧ σ.env 8 = .one (.s (.int .i64 s_1.1)) ∧ σ.env 16 = .one (.s (.int .i64 (addI (s.nodes.length : Int) 1))) ∧ σ.env 17 = .one (.s (.int .i64 s_1.1)) ∧ σ.env 34 = .one (.s (.int .i64 (addI (s.nodes.length : Int) 1))) ∧ σ.env 35 = .one (.s (.int .i64 s_33.1)) ∧ σ.mem (1, 2) = some [(.l .shr s.nodes.length (encL s.nodes)), (.l .shr s.next.length (encL s.next))] ∧ σ.mem (1, 3) = some [(.s (.int .i64 t))] ∧ σ.mem (1, 4) = some [(.l .own 0 []), (.l .own 0 [])] ∧ σ.mem (1, 5) = some [(.l .own (s_1.2.1 ++ [y_28]).length (encL (s_1.2.1 ++ [y_28]))), (.l .own s_33.2.length (encL s_33.2))] ∧ σ.mem (1, 6) = some [(.s (.int .i64 (s.nodes.length : Int)))] ∧ Tight (1) σ.mem ∧ NoBox [(1, 2), (1, 3), (1, 4), (1, 5), (1, 6)] σ.mem) := ⟨_, rfl⟩
      obtain ⟨X_36, X_36_⟩ : ∃ X : (List Int) → Out → Prop, X = (fun (r_65 : (List Int)) (out : Out) => ∃ σ : St, out = .exit 2 σ ∧ σ.env 2 = .one (.ptr (1, 2) 0) ∧ σ.env 4 = .one (.ptr (1, 4) 0) ∧ σ.env 5 = .one (.ptr (1, 5) 0) ∧ σ.env 6 = .one (.ptr (1, 6) 0) ∧ σ.env 7 = .one (.fn 136 [((1, 6), 0), ((1, 3), 0)]) ∧ σ.env 16 = .one (.s (.int .i64 (addI (s.nodes.length : Int) 1))) ∧ σ.env 17 = .one (.s (.int .i64 s_1.1)) ∧ σ.mem (1, 2) = some [(.l .shr s.nodes.length (encL s.nodes)), (.l .shr s.next.length (encL s.next))] ∧ σ.mem (1, 3) = some [(.s (.int .i64 t))] ∧ σ.mem (1, 4) = some [(.l .own 0 []), (.l .own 0 [])] ∧ σ.mem (1, 5) = some [(.l .own (s_1.2.1 ++ [y_28]).length (encL (s_1.2.1 ++ [y_28]))), (.l .own r_65.length (encL r_65))] ∧ σ.mem (1, 6) = some [(.s (.int .i64 (s.nodes.length : Int)))] ∧ Tight (1) σ.mem ∧ NoBox [(1, 2), (1, 3), (1, 4), (1, 5), (1, 6)] σ.mem) := ⟨_, rfl⟩
      refine loopP ({ hd := [2, 4, 5, 6, 7, 8, 16, 17, 34, 35], bx := [], ex := [2, 4, 5, 6, 7, 16, 17], rt := [4] }) I_35 X_36 h_66 (by exact rfl) ?_ ?_ ?_
      · rw [I_35_]
        exact ⟨by simp [restrict_env, q_6, q_7, q_8, q_9, q_10, q_11, q_12, q_13, q_14, q_15, q_16, q_17, h_20], by simp [restrict_env, q_6, q_7, q_8, q_9, q_10, q_11, q_12, q_13, q_14, q_15, q_16, q_17, h_20], by simp [restrict_env, q_6, q_7, q_8, q_9, q_10, q_11, q_12, q_13, q_14, q_15, q_16, q_17, h_20], by simp [restrict_env, q_6, q_7, q_8, q_9, q_10, q_11, q_12, q_13, q_14, q_15, q_16, q_17, h_20], by simp [restrict_env, q_6, q_7, q_8, q_9, q_10, q_11, q_12, q_13, q_14, q_15, q_16, q_17, h_20], by simp [restrict_env, q_6, q_7, q_8, q_9, q_10, q_11, q_12, q_13, q_14, q_15, q_16, q_17, h_20], by simp [restrict_env, q_6, q_7, q_8, q_9, q_10, q_11, q_12, q_13, q_14, q_15, q_16, q_17, h_20], by simp [restrict_env, q_6, q_7, q_8, q_9, q_10, q_11, q_12, q_13, q_14, q_15, q_16, q_17, h_20], by simp [restrict_env, q_6, q_7, q_8, q_9, q_10, q_11, q_12, q_13, q_14, q_15, q_16, q_17, h_20], by simp [restrict_env, q_6, q_7, q_8, q_9, q_10, q_11, q_12, q_13, q_14, q_15, q_16, q_17, h_20], by simp [restrict_mem, q_6, q_7, q_8, q_9, q_10, q_11, q_12, q_13, q_14, q_15, q_16, q_17, h_20], by simp [restrict_mem, q_6, q_7, q_8, q_9, q_10, q_11, q_12, q_13, q_14, q_15, q_16, q_17, h_20], by simp [restrict_mem, q_6, q_7, q_8, q_9, q_10, q_11, q_12, q_13, q_14, q_15, q_16, q_17, h_20], by simp [restrict_mem, q_6, q_7, q_8, q_9, q_10, q_11, q_12, q_13, q_14, q_15, q_16, q_17, h_20], by simp [restrict_mem, q_6, q_7, q_8, q_9, q_10, q_11, q_12, q_13, q_14, q_15, q_16, q_17, h_20], (by repeat (first | exact ht_18 | exact tight_mem0 _ | exact hT.up | exact hT | refine Tight.restrict ?_ | refine Tight.upd ?_ (by simp) (by simp))), NoBox.restrict (by intro k hk hb; simp at hk hb; simp [hk, hb, q_6, q_7, q_8, q_9, q_10, q_11, q_12, q_13, q_14, q_15, q_16, q_17, h_20, hn_19 k (by simp [hk, hb])])⟩
      · intro s_33 σ_37 a_34 hI hp
        rw [I_35_] at hI
        obtain ⟨q_38, q_39, q_40, q_41, q_42, q_43, q_44, q_45, q_46, q_47, q_48, q_49, q_50, q_51, q_52, ht_53, hn_54⟩ := hI
        try simp [h_20, q_38, q_39, q_40, q_41, q_42, q_43, q_44, q_45, q_46, q_47, q_48, q_49, q_50, q_51, q_52]
        rcases cond_cases hp with ⟨h_55, hp⟩ | ⟨h_55, hp⟩
        · try simp at h_55
          obtain ⟨y_56, h_57, hp⟩ := bind_some hp
          try simp [h_20, q_38, q_39, q_40, q_41, q_42, q_43, q_44, q_45, q_46, q_47, q_48, q_49, q_50, q_51, q_52, h_55]
          refine goal_callRo [av .shr s_1.1, .one (.ptr (1, 6) 0), .one (.ptr (1, 3) 0)] (Res.res y_56) (by kernel_rfl) (by simp [h_20, q_38, q_39, q_40, q_41, q_42, q_43, q_44, q_45, q_46, q_47, q_48, q_49, q_50, q_51, q_52, h_55]) (wI136 G_136 (by repeat (first | exact ht_53 | exact tight_mem0 _ | exact hT.up | exact hT | (simp only [q_38, q_39, q_40, q_41, q_42, q_43, q_44, q_45, q_46, q_47, q_48, q_49, q_50, q_51, q_52]; done) | refine Tight.upd ?_ (by simp) (by simp))) (by simp) (by simp [h_20, q_38, q_39, q_40, q_41, q_42, q_43, q_44, q_45, q_46, q_47, q_48, q_49, q_50, q_51, q_52, h_55]) (by simp) (by simp [h_20, q_38, q_39, q_40, q_41, q_42, q_43, q_44, q_45, q_46, q_47, q_48, q_49, q_50, q_51, q_52, h_55]) h_57) ?_
          obtain ⟨y_58, h_59, hp⟩ := bind_some hp
          try simp [h_20, q_38, q_39, q_40, q_41, q_42, q_43, q_44, q_45, q_46, q_47, q_48, q_49, q_50, q_51, q_52, h_55]
          refine goal_callRo [av .shr s_33.1, .one (.ptr (1, 6) 0), .one (.ptr (1, 3) 0)] (Res.res y_58) (by kernel_rfl) (by simp [h_20, q_38, q_39, q_40, q_41, q_42, q_43, q_44, q_45, q_46, q_47, q_48, q_49, q_50, q_51, q_52, h_55]) (wI136 G_136 (by repeat (first | exact ht_53 | exact tight_mem0 _ | exact hT.up | exact hT | (simp only [q_38, q_39, q_40, q_41, q_42, q_43, q_44, q_45, q_46, q_47, q_48, q_49, q_50, q_51, q_52]; done) | refine Tight.upd ?_ (by simp) (by simp))) (by simp) (by simp [h_20, q_38, q_39, q_40, q_41, q_42, q_43, q_44, q_45, q_46, q_47, q_48, q_49, q_50, q_51, q_52, h_55]) (by simp) (by simp [h_20, q_38, q_39, q_40, q_41, q_42, q_43, q_44, q_45, q_46, q_47, q_48, q_49, q_50, q_51, q_52, h_55]) h_59) ?_
          obtain ⟨y_60, h_61, hp⟩ := bind_some hp
          have c_62 := C81_eq h_61
          simp at c_62
          obtain ⟨_, h_63, hp⟩ := bind_some hp
          have b_64 := room_ok h_63
          try simp at b_64
          cases hp
          try simp [h_20, q_38, q_39, q_40, q_41, q_42, q_43, q_44, q_45, q_46, q_47, q_48, q_49, q_50, q_51, q_52, h_55, c_62, b_64]
          refine goal_next ?_
          rw [I_35_]
          exact ⟨by simp [restrict_env, h_20, q_38, q_39, q_40, q_41, q_42, q_43, q_44, q_45, q_46, q_47, q_48, q_49, q_50, q_51, q_52, h_55, c_62, b_64], by simp [restrict_env, h_20, q_38, q_39, q_40, q_41, q_42, q_43, q_44, q_45, q_46, q_47, q_48, q_49, q_50, q_51, q_52, h_55, c_62, b_64], by simp [restrict_env, h_20, q_38, q_39, q_40, q_41, q_42, q_43, q_44, q_45, q_46, q_47, q_48, q_49, q_50, q_51, q_52, h_55, c_62, b_64], by simp [restrict_env, h_20, q_38, q_39, q_40, q_41, q_42, q_43, q_44, q_45, q_46, q_47, q_48, q_49, q_50, q_51, q_52, h_55, c_62, b_64], by simp [restrict_env, h_20, q_38, q_39, q_40, q_41, q_42, q_43, q_44, q_45, q_46, q_47, q_48, q_49, q_50, q_51, q_52, h_55, c_62, b_64], by simp [restrict_env, h_20, q_38, q_39, q_40, q_41, q_42, q_43, q_44, q_45, q_46, q_47, q_48, q_49, q_50, q_51, q_52, h_55, c_62, b_64], by simp [restrict_env, h_20, q_38, q_39, q_40, q_41, q_42, q_43, q_44, q_45, q_46, q_47, q_48, q_49, q_50, q_51, q_52, h_55, c_62, b_64], by simp [restrict_env, h_20, q_38, q_39, q_40, q_41, q_42, q_43, q_44, q_45, q_46, q_47, q_48, q_49, q_50, q_51, q_52, h_55, c_62, b_64], by simp [restrict_env, h_20, q_38, q_39, q_40, q_41, q_42, q_43, q_44, q_45, q_46, q_47, q_48, q_49, q_50, q_51, q_52, h_55, c_62, b_64], by simp [restrict_env, h_20, q_38, q_39, q_40, q_41, q_42, q_43, q_44, q_45, q_46, q_47, q_48, q_49, q_50, q_51, q_52, h_55, c_62, b_64], by simp [restrict_mem, h_20, q_38, q_39, q_40, q_41, q_42, q_43, q_44, q_45, q_46, q_47, q_48, q_49, q_50, q_51, q_52, h_55, c_62, b_64], by simp [restrict_mem, h_20, q_38, q_39, q_40, q_41, q_42, q_43, q_44, q_45, q_46, q_47, q_48, q_49, q_50, q_51, q_52, h_55, c_62, b_64], by simp [restrict_mem, h_20, q_38, q_39, q_40, q_41, q_42, q_43, q_44, q_45, q_46, q_47, q_48, q_49, q_50, q_51, q_52, h_55, c_62, b_64], by simp [restrict_mem, h_20, q_38, q_39, q_40, q_41, q_42, q_43, q_44, q_45, q_46, q_47, q_48, q_49, q_50, q_51, q_52, h_55, c_62, b_64], by simp [restrict_mem, h_20, q_38, q_39, q_40, q_41, q_42, q_43, q_44, q_45, q_46, q_47, q_48, q_49, q_50, q_51, q_52, h_55, c_62, b_64], (by repeat (first | exact ht_53 | exact tight_mem0 _ | exact hT.up | exact hT | refine Tight.restrict ?_ | refine Tight.upd ?_ (by simp) (by simp))), NoBox.restrict (by intro k hk hb; simp at hk hb; simp [hk, hb, h_20, q_38, q_39, q_40, q_41, q_42, q_43, q_44, q_45, q_46, q_47, q_48, q_49, q_50, q_51, q_52, h_55, c_62, b_64, hn_54 k (by simp [hk, hb])])⟩
        · try simp at h_55
          cases hp
          try simp [h_20, q_38, q_39, q_40, q_41, q_42, q_43, q_44, q_45, q_46, q_47, q_48, q_49, q_50, q_51, q_52, h_55]
          refine goal_outX ?_
          rw [X_36_]
          exact ⟨_, rfl, by simp [restrict_env, h_20, q_38, q_39, q_40, q_41, q_42, q_43, q_44, q_45, q_46, q_47, q_48, q_49, q_50, q_51, q_52, h_55], by simp [restrict_env, h_20, q_38, q_39, q_40, q_41, q_42, q_43, q_44, q_45, q_46, q_47, q_48, q_49, q_50, q_51, q_52, h_55], by simp [restrict_env, h_20, q_38, q_39, q_40, q_41, q_42, q_43, q_44, q_45, q_46, q_47, q_48, q_49, q_50, q_51, q_52, h_55], by simp [restrict_env, h_20, q_38, q_39, q_40, q_41, q_42, q_43, q_44, q_45, q_46, q_47, q_48, q_49, q_50, q_51, q_52, h_55], by simp [restrict_env, h_20, q_38, q_39, q_40, q_41, q_42, q_43, q_44, q_45, q_46, q_47, q_48, q_49, q_50, q_51, q_52, h_55], by simp [restrict_env, h_20, q_38, q_39, q_40, q_41, q_42, q_43, q_44, q_45, q_46, q_47, q_48, q_49, q_50, q_51, q_52, h_55], by simp [restrict_env, h_20, q_38, q_39, q_40, q_41, q_42, q_43, q_44, q_45, q_46, q_47, q_48, q_49, q_50, q_51, q_52, h_55], by simp [restrict_mem, h_20, q_38, q_39, q_40, q_41, q_42, q_43, q_44, q_45, q_46, q_47, q_48, q_49, q_50, q_51, q_52, h_55], by simp [restrict_mem, h_20, q_38, q_39, q_40, q_41, q_42, q_43, q_44, q_45, q_46, q_47, q_48, q_49, q_50, q_51, q_52, h_55], by simp [restrict_mem, h_20, q_38, q_39, q_40, q_41, q_42, q_43, q_44, q_45, q_46, q_47, q_48, q_49, q_50, q_51, q_52, h_55], by simp [restrict_mem, h_20, q_38, q_39, q_40, q_41, q_42, q_43, q_44, q_45, q_46, q_47, q_48, q_49, q_50, q_51, q_52, h_55], by simp [restrict_mem, h_20, q_38, q_39, q_40, q_41, q_42, q_43, q_44, q_45, q_46, q_47, q_48, q_49, q_50, q_51, q_52, h_55], (by repeat (first | exact ht_53 | exact tight_mem0 _ | exact hT.up | exact hT | refine Tight.restrict ?_ | refine Tight.upd ?_ (by simp) (by simp))), NoBox.restrict (by intro k hk hb; simp at hk hb; simp [hk, hb, h_20, q_38, q_39, q_40, q_41, q_42, q_43, q_44, q_45, q_46, q_47, q_48, q_49, q_50, q_51, q_52, h_55, hn_54 k (by simp [hk, hb])])⟩
      · intro out hX
        rw [X_36_] at hX
        obtain ⟨σ_67, rfl, q_68, q_69, q_70, q_71, q_72, q_73, q_74, q_75, q_76, q_77, q_78, q_79, ht_80, hn_81⟩ := hX
        cases hp
        try simp [h_20, q_68, q_69, q_70, q_71, q_72, q_73, q_74, q_75, q_76, q_77, q_78, q_79]
        refine goal_next ?_
        rw [I_3_]
        exact ⟨by simp [restrict_env, h_20, q_68, q_69, q_70, q_71, q_72, q_73, q_74, q_75, q_76, q_77, q_78, q_79], by simp [restrict_env, h_20, q_68, q_69, q_70, q_71, q_72, q_73, q_74, q_75, q_76, q_77, q_78, q_79], by simp [restrict_env, h_20, q_68, q_69, q_70, q_71, q_72, q_73, q_74, q_75, q_76, q_77, q_78, q_79], by simp [restrict_env, h_20, q_68, q_69, q_70, q_71, q_72, q_73, q_74, q_75, q_76, q_77, q_78, q_79], by simp [restrict_env, h_20, q_68, q_69, q_70, q_71, q_72, q_73, q_74, q_75, q_76, q_77, q_78, q_79], by simp [restrict_env, h_20, q_68, q_69, q_70, q_71, q_72, q_73, q_74, q_75, q_76, q_77, q_78, q_79], by simp [restrict_env, h_20, q_68, q_69, q_70, q_71, q_72, q_73, q_74, q_75, q_76, q_77, q_78, q_79], by simp [restrict_mem, h_20, q_68, q_69, q_70, q_71, q_72, q_73, q_74, q_75, q_76, q_77, q_78, q_79], by simp [restrict_mem, h_20, q_68, q_69, q_70, q_71, q_72, q_73, q_74, q_75, q_76, q_77, q_78, q_79], by simp [restrict_mem, h_20, q_68, q_69, q_70, q_71, q_72, q_73, q_74, q_75, q_76, q_77, q_78, q_79], by simp [restrict_mem, h_20, q_68, q_69, q_70, q_71, q_72, q_73, q_74, q_75, q_76, q_77, q_78, q_79], by simp [restrict_mem, h_20, q_68, q_69, q_70, q_71, q_72, q_73, q_74, q_75, q_76, q_77, q_78, q_79], (by repeat (first | exact ht_80 | exact tight_mem0 _ | exact hT.up | exact hT | refine Tight.restrict ?_ | refine Tight.upd ?_ (by simp) (by simp))), NoBox.restrict (by intro k hk hb; simp at hk hb; simp [hk, hb, h_20, q_68, q_69, q_70, q_71, q_72, q_73, q_74, q_75, q_76, q_77, q_78, q_79, hn_81 k (by simp [hk, hb])])⟩
    · try simp at h_20
      cases hp
      try simp [q_6, q_7, q_8, q_9, q_10, q_11, q_12, q_13, q_14, q_15, q_16, q_17, h_20]
      refine goal_outX ?_
      rw [X_4_]
      exact ⟨_, rfl, by simp [restrict_env, q_6, q_7, q_8, q_9, q_10, q_11, q_12, q_13, q_14, q_15, q_16, q_17, h_20], by simp [restrict_env, q_6, q_7, q_8, q_9, q_10, q_11, q_12, q_13, q_14, q_15, q_16, q_17, h_20], by simp [restrict_mem, q_6, q_7, q_8, q_9, q_10, q_11, q_12, q_13, q_14, q_15, q_16, q_17, h_20], by simp [restrict_mem, q_6, q_7, q_8, q_9, q_10, q_11, q_12, q_13, q_14, q_15, q_16, q_17, h_20], by simp [restrict_mem, q_6, q_7, q_8, q_9, q_10, q_11, q_12, q_13, q_14, q_15, q_16, q_17, h_20], by simp [restrict_mem, q_6, q_7, q_8, q_9, q_10, q_11, q_12, q_13, q_14, q_15, q_16, q_17, h_20], by simp [restrict_mem, q_6, q_7, q_8, q_9, q_10, q_11, q_12, q_13, q_14, q_15, q_16, q_17, h_20], (by repeat (first | exact ht_18 | exact tight_mem0 _ | exact hT.up | exact hT | refine Tight.restrict ?_ | refine Tight.upd ?_ (by simp) (by simp))), NoBox.restrict (by intro k hk hb; simp at hk hb; simp [hk, hb, q_6, q_7, q_8, q_9, q_10, q_11, q_12, q_13, q_14, q_15, q_16, q_17, h_20, hn_19 k (by simp [hk, hb])])⟩
  · intro out hX
    rw [X_4_] at hX
    obtain ⟨σ_84, rfl, q_85, q_86, q_87, q_88, q_89, q_90, q_91, ht_92, hn_93⟩ := hX
    cases hp
    simp [Goal, FnEnd, retR, rsrc, RSrc.val, nodupR, nodup, tupPart, q_85, q_86, q_87, q_88, q_89, q_90, q_91]
theorem pc83 : PC Try.prog 83 C83 := pc_of (g := g83) (ctxOK_of [(81, C81), (133, C133)] rfl ⟨pc81, pc133, trivial⟩) ⟨Try.f83, Try.func83, by kernel_rfl, by kernel_rfl⟩ fun x y h => w83 h
end Go.Proofs
