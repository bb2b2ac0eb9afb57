import Derived.Test.YtahcfnjgllpkdaaEvW4
set_option linter.unusedSimpArgs false
set_option linter.unusedVariables false
set_option linter.unnecessarySimpa false
namespace Go.Proofs
open Go.Ev
abbrev G185 (g : Cfg) : Prop := Has Try.prog g 185 Try.f185 [10] [] [(106, C106), (188, C188), (189, C189)] []
set_option maxHeartbeats 4000000 in
set_option maxRecDepth 100000 in
theorem wI185 {g : Cfg} (G : G185 g) (G_187 : G187 g) {d : Nat} {mem : Mem} (hT : Tight d mem)  {s : TStructure} {t : TStructure} {m_0 : Md} (hm_0 : LentM m_0) {m_1 : Md} (hm_1 : LentM m_1) {y} (hp : impl_FindEmbedding s t = some y) : ∃ r, callo g d 185 [av m_0 s, av m_1 t] mem = some (r, mem) ∧ ∃ me_0 : Md, r = .tu [tupM me_0 y.1, tup y.2] := by
  have gP := G.P; have gt := G.tk; have gg := G.gh
  have i_187 := G_187.no
  have c_106 := G.cs (106, C106) (by simp)
  have c_188 := G.cs (188, C188) (by simp)
  have c_189 := G.cs (189, C189) (by simp)
  have hT2 : memKill (fun k => decide (d < k.1)) mem = mem := hT
  have hm0 : ∀ t, mem (d + 1, t) = none := fun t => hT.none (by simp)
  refine start_ex (Try.f185.body.getD .skip) [.tmp 4, .tmp 5] G Try.func185 (by kernel_rfl) (by simp [Try.ntmps185]) rfl ?_
  unfold impl_FindEmbedding at hp
  obtain ⟨y_1, h_2, hp⟩ := bind_some hp
  simp [Try.f185, gP, gt, gg, hm0, c_106, c_188, c_189, i_187, hm_0.copy, hm_0.elem, hm_1.copy, hm_1.elem]
  refine goal_callE [av .bor [], .one (.ptr (d + 1, 2) 0), .one (.ptr (d + 1, 3) 0), .one (.ptr (d + 1, 6) 0)] (fun r => ∃ me_3 : Md, r = .tu [tupM me_3 y_1.1, tup y_1.2]) (by simp [gP, gt, gg, hm0, c_106, c_188, c_189, i_187, hm_0.copy, hm_0.elem, hm_1.copy, hm_1.elem]) (wI187 (mk_1 := m_0) (mk_2 := m_1) G_187 _ (by repeat (first | exact tight_mem0 _ | exact hT.up | exact hT | (simp only [true_and]; done) | refine Tight.upd ?_ (by simp) (by simp))) (.inr rfl) (by simp) (by simp [gP, gt, gg, hm0, c_106, c_188, c_189, i_187, hm_0.copy, hm_0.elem, hm_1.copy, hm_1.elem]) (by simp) (by simp [gP, gt, gg, hm0, c_106, c_188, c_189, i_187, hm_0.copy, hm_0.elem, hm_1.copy, hm_1.elem]) (by simp) (by simp [gP, gt, gg, hm0, c_106, c_188, c_189, i_187, hm_0.copy, hm_0.elem, hm_1.copy, hm_1.elem]) (fixO_some h_2).choose_spec) ?_
  rintro _ ⟨me_3, rfl⟩
  try simp [gP, gt, gg, hm0, c_106, c_188, c_189, i_187, hm_0.copy, hm_0.elem, hm_1.copy, hm_1.elem]
  rcases cond_cases hp with ⟨h_4, hp⟩ | ⟨h_4, hp⟩
  · try simp at h_4
    cases hp
    simp [Goal, FnEndE, memKill_hi, retR, rsrc, RSrc.val, nodupR, nodup, tupPart, gP, gt, gg, hm0, c_106, c_188, c_189, i_187, hm_0.copy, hm_0.elem, hm_1.copy, hm_1.elem, h_4, hT2]
  · try simp at h_4
    cases hp
    simp [Goal, FnEndE, memKill_hi, retR, rsrc, RSrc.val, nodupR, nodup, tupPart, gP, gt, gg, hm0, c_106, c_188, c_189, i_187, hm_0.copy, hm_0.elem, hm_1.copy, hm_1.elem, h_4, hT2]

noncomputable def C177 : List AV → Option AV := specP (X := TStructure × TStructure × Unit) fun x => impl_IsEmbedded x.1 x.2.1
theorem C177_eq {s t} {y} (h : impl_IsEmbedded s t = some y) : C177 [av .shr s, av .shr t] = some (Res.res y) := specP_eq (X := TStructure × TStructure × Unit) (F := fun x => impl_IsEmbedded x.1 x.2.1) (x := (s, t, ())) h
noncomputable def g177 : Cfg := { P := Try.prog, take := [(177, 7), (185, 10), (187, 37)], keep := [((187, 4), { hd := [0, 1, 2, 3, 23, 24], bx := [], ex := [], rt := [5, 6] })], gho := [], ctx := [(106, C106), (188, C188), (189, C189)] }
@[simp] theorem g177_P : g177.P = Try.prog := rfl
@[simp] theorem g177_t : g177.take = [(177, 7), (185, 10), (187, 37)] := rfl
@[simp] theorem g177_g : g177.gho = [] := rfl
@[simp] theorem g177_106 : lookN 106 g177.ctx = some C106 := rfl
@[simp] theorem g177_188 : lookN 188 g177.ctx = some C188 := rfl
@[simp] theorem g177_189 : lookN 189 g177.ctx = some C189 := rfl
@[simp] theorem g177_185 : lookN 185 g177.ctx = none := rfl
@[simp] theorem g177_187 : lookN 187 g177.ctx = none := rfl
set_option maxHeartbeats 4000000 in
set_option maxRecDepth 100000 in
theorem w177 {s t} {y} (hp : impl_IsEmbedded s t = some y) : ∃ m, callo g177 0 177 [av .shr s, av .shr t] mem0 = some (Res.res y, m) := by
  have G_185 : G185 g177 := ⟨rfl, by kernel_rfl, rfl, fun t => by simp, fun i => by simp [lookK], by simp [g177, lookK], by simp⟩
  have G_187 : G187 g177 := ⟨rfl, by kernel_rfl, rfl, fun t => by simp, fun i => by simp [lookK], by simp [g177, lookK], by simp⟩
  refine start_fn (Try.f177.body.getD .skip) [.tmp 4] rfl rfl Try.func177 (by kernel_rfl) (by kernel_rfl) (by simp [Try.ntmps177]) rfl ?_
  unfold impl_IsEmbedded at hp
  obtain ⟨y_1, h_2, hp⟩ := bind_some hp
  simp [Try.f177]
  refine goal_callE [av .shr s, av .shr t] (fun r => ∃ me_3 : Md, r = .tu [tupM me_3 y_1.1, tup y_1.2]) (by simp) (wI185 G_185 G_187 (by repeat (first | exact tight_mem0 _ | exact hT.up | exact hT | (simp only [true_and]; done) | refine Tight.upd ?_ (by simp) (by simp))) (.inl rfl) (.inl rfl) h_2) ?_
  rintro _ ⟨me_3, rfl⟩
  cases hp
  simp [Goal, FnEnd]
theorem pc177 : PC Try.prog 177 C177 := pc_of (g := g177) (ctxOK_of [(106, C106), (188, C188), (189, C189)] rfl ⟨pc106, pc188, pc189, trivial⟩) ⟨Try.f177, Try.func177, by kernel_rfl, by kernel_rfl⟩ fun x y h => w177 h

abbrev G184 (g : Cfg) : Prop := Has Try.prog g 184 Try.f184 [] [(2, { hd := [0, 1, 7, 8], bx := [], ex := [], rt := [4] })] [] []
set_option maxHeartbeats 4000000 in
set_option maxRecDepth 100000 in
theorem wI184 {g : Cfg} (G : G184 g) {d : Nat} {mem : Mem} (hT : Tight d mem)  {s : (List TStructure)} {f_ : (TStructure → Option (Bool))} {m_0 : Md} (hm_0 : LentM m_0) {fk_f_ : Nat} {caps_f_ : List (Key × Nat)} (hl_f_ : ∀ c ∈ caps_f_, c.1.1 ≤ d) (hc_f_ : Clo g d mem fk_f_ caps_f_ fun x : TStructure × Unit => f_ x.1) {y} (hp : slices_IndexFunc_Structure s f_ = some y) : callo g d 184 [av m_0 s, .one (.fn fk_f_ caps_f_)] mem = some (Res.res y, mem) := by
  have gP := G.P; have gt := G.tk; have gg := G.gh
  have k_2 := G.kp (2, { hd := [0, 1, 7, 8], bx := [], ex := [], rt := [4] }) (by simp)
  have hT2 : memKill (fun k => decide (d < k.1)) mem = mem := hT
  refine start_in (Try.f184.body.getD .skip) [.tmp 4] G Try.func184 (by kernel_rfl) (by simp [Try.ntmps184]) rfl ?_
  unfold slices_IndexFunc_Structure at hp
  simp [Try.f184, gP, gt, gg, hm_0.copy, hm_0.elem]
  obtain ⟨r_20, h_21, hp⟩ := bind_some hp
  obtain ⟨I_3, I_3_⟩ : ∃ I : Int → St → Prop, I = (fun (s_1 : Int) (σ : St) => σ.env 0 = .one (.l m_0 s.length (encL s)) ∧ σ.env 1 = .one (.fn fk_f_ caps_f_) ∧ σ.env 7 = .one (.s (.int .i64 (s.length : Int))) ∧ σ.env 8 = .one (.s (.int .i64 s_1)) ∧ σ.mem = mem) := ⟨_, rfl⟩
  obtain ⟨X_4, X_4_⟩ : ∃ X : ((Int) ⊕ (Unit)) → Out → Prop, X = (fun (r_20 : (Int) ⊕ (Unit)) (out : Out) => Sum.elim (fun r_20 => ∃ σ : St, out = .ret σ ∧ σ.env 4 = .one (.s (.int .i64 r_20)) ∧ σ.mem = mem) (fun r_20 => ∃ σ : St, out = .exit 0 σ ∧ σ.mem = mem) r_20) := ⟨_, rfl⟩
  refine loopP ({ hd := [0, 1, 7, 8], bx := [], ex := [], rt := [4] }) I_3 X_4 h_21 (by exact k_2) ?_ ?_ ?_
  · rw [I_3_]
    exact ⟨by simp [restrict_env, gP, gt, gg, hm_0.copy, hm_0.elem], by simp [restrict_env, gP, gt, gg, hm_0.copy, hm_0.elem] <;> first | (intro x x1 x2 hx; have h0 := hl_f_ _ hx; simp at h0; omega) | (intro x hx; have h0 := hl_f_ _ hx; simp at h0; omega), by simp [restrict_env, gP, gt, gg, hm_0.copy, hm_0.elem], by simp [restrict_env, gP, gt, gg, hm_0.copy, hm_0.elem], by simp [restrict_mem, gP, gt, gg, hm_0.copy, hm_0.elem]⟩
  · intro s_1 σ_5 a_2 hI hp
    rw [I_3_] at hI
    obtain ⟨q_6, q_7, q_8, q_9, q_10⟩ := hI
    try simp [gP, gt, gg, hm_0.copy, hm_0.elem, q_6, q_7, q_8, q_9, q_10]
    rcases cond_cases hp with ⟨h_11, hp⟩ | ⟨h_11, hp⟩
    · try simp at h_11
      obtain ⟨e_12, h_13, hp⟩ := bind_some hp
      have b_14 := at_lo h_13
      have b_15 := at_hi h_13
      try simp at b_14
      try simp at b_15
      have c_16 := seg_at' h_13 0 2 (by decide) (ds := [.sl e_12.nodes.length (encL e_12.nodes), .sl e_12.next.length (encL e_12.next)]) rfl
      try simp at c_16
      obtain ⟨y_17, h_18, hp⟩ := bind_some hp
      try simp [gP, gt, gg, hm_0.copy, hm_0.elem, q_6, q_7, q_8, q_9, q_10, h_11, b_14, b_15, c_16]
      refine goal_call ([av m_0 e_12] ++ capsAV caps_f_) (Res.res y_17) (by simp [capsAV, gP, gt, gg, hm_0.copy, hm_0.elem, q_6, q_7, q_8, q_9, q_10, h_11]) (hc_f_ _ _ _ (e_12, ()) _ (Nat.le_succ d) (fun k hk => by first | rfl | rw [q_10]) (by repeat (first | exact tight_mem0 _ | exact hT.up | exact hT | (simp only [q_6, q_7, q_8, q_9, q_10]; done) | refine Tight.upd ?_ (by simp) (by simp))) ⟨_, _, hm_0, rfl, rfl⟩ h_18) ?_
      try simp [gP, gt, gg, hm_0.copy, hm_0.elem, q_6, q_7, q_8, q_9, q_10, h_11]
      rcases cond_cases hp with ⟨h_19, hp⟩ | ⟨h_19, hp⟩
      · try simp at h_19
        cases hp
        try simp [gP, gt, gg, hm_0.copy, hm_0.elem, q_6, q_7, q_8, q_9, q_10, h_11, h_19]
        refine goal_outR ?_
        rw [X_4_]
        exact ⟨_, rfl, by simp [restrict_env, gP, gt, gg, hm_0.copy, hm_0.elem, q_6, q_7, q_8, q_9, q_10, h_11, h_19], by simp [restrict_mem, gP, gt, gg, hm_0.copy, hm_0.elem, q_6, q_7, q_8, q_9, q_10, h_11, h_19]⟩
      · try simp at h_19
        cases hp
        try simp [gP, gt, gg, hm_0.copy, hm_0.elem, q_6, q_7, q_8, q_9, q_10, h_11, h_19]
        refine goal_next ?_
        rw [I_3_]
        exact ⟨by simp [restrict_env, gP, gt, gg, hm_0.copy, hm_0.elem, q_6, q_7, q_8, q_9, q_10, h_11, h_19], by simp [restrict_env, gP, gt, gg, hm_0.copy, hm_0.elem, q_6, q_7, q_8, q_9, q_10, h_11, h_19] <;> first | (intro x x1 x2 hx; have h0 := hl_f_ _ hx; simp at h0; omega) | (intro x hx; have h0 := hl_f_ _ hx; simp at h0; omega), by simp [restrict_env, gP, gt, gg, hm_0.copy, hm_0.elem, q_6, q_7, q_8, q_9, q_10, h_11, h_19], by simp [restrict_env, gP, gt, gg, hm_0.copy, hm_0.elem, q_6, q_7, q_8, q_9, q_10, h_11, h_19], by simp [restrict_mem, gP, gt, gg, hm_0.copy, hm_0.elem, q_6, q_7, q_8, q_9, q_10, h_11, h_19]⟩
    · try simp at h_11
      cases hp
      try simp [gP, gt, gg, hm_0.copy, hm_0.elem, q_6, q_7, q_8, q_9, q_10, h_11]
      refine goal_outX ?_
      rw [X_4_]
      exact ⟨_, rfl, by simp [restrict_mem, gP, gt, gg, hm_0.copy, hm_0.elem, q_6, q_7, q_8, q_9, q_10, h_11]⟩
  · intro out hX
    rw [X_4_] at hX
    rcases r_20 with r_20 | r_20
    · simp only [Sum.elim_inl, Sum.elim_inr] at hX hp
      obtain ⟨σ_22, rfl, q_23, q_24⟩ := hX
      cases hp
      simp [Goal, FnEndI, memKill_hi, gP, gt, gg, hm_0.copy, hm_0.elem, q_23, q_24, hT2]
    · simp only [Sum.elim_inl, Sum.elim_inr] at hX hp
      obtain ⟨σ_25, rfl, q_26⟩ := hX
      cases hp
      simp [Goal, FnEndI, memKill_hi, gP, gt, gg, hm_0.copy, hm_0.elem, q_26, hT2]

abbrev G175 (g : Cfg) : Prop := Has Try.prog g 175 Try.f175 [] [] [] []
set_option maxHeartbeats 4000000 in
set_option maxRecDepth 100000 in
theorem wI175 {g : Cfg} (G : G175 g) (G_184 : G184 g) {d : Nat} {mem : Mem} (hT : Tight d mem)  {s : (List TStructure)} {f_ : (TStructure → Option (Bool))} {m_0 : Md} (hm_0 : LentM m_0) {fk_f_ : Nat} {caps_f_ : List (Key × Nat)} (hl_f_ : ∀ c ∈ caps_f_, c.1.1 ≤ d) (hc_f_ : Clo g d mem fk_f_ caps_f_ fun x : TStructure × Unit => f_ x.1) {y} (hp : slices_ContainsFunc_Structure s f_ = some y) : callo g d 175 [av m_0 s, .one (.fn fk_f_ caps_f_)] mem = some (Res.res y, mem) := by
  have gP := G.P; have gt := G.tk; have gg := G.gh
  have i_184 := G_184.no
  have hT2 : memKill (fun k => decide (d < k.1)) mem = mem := hT
  refine start_in (Try.f175.body.getD .skip) [.tmp 4] G Try.func175 (by kernel_rfl) (by simp [Try.ntmps175]) rfl ?_
  unfold slices_ContainsFunc_Structure at hp
  obtain ⟨y_1, h_2, hp⟩ := bind_some hp
  simp [Try.f175, gP, gt, gg, i_184, hm_0.copy, hm_0.elem]
  refine goal_call [av m_0 s, .one (.fn fk_f_ caps_f_)] (Res.res y_1) (by simp [gP, gt, gg, i_184, hm_0.copy, hm_0.elem]) (wI184 G_184 (by repeat (first | exact tight_mem0 _ | exact hT.up | exact hT | (simp only [true_and]; done) | refine Tight.upd ?_ (by simp) (by simp))) hm_0 (fun c hc => Nat.le_succ_of_le (hl_f_ c hc)) (hc_f_.mono (Nat.le_succ d) (fun k hk => rfl)) h_2) ?_
  cases hp
  simp [Goal, FnEndI, memKill_hi, gP, gt, gg, i_184, hm_0.copy, hm_0.elem, hT2]

abbrev G176 (g : Cfg) : Prop := Has Try.prog g 176 Try.f176 [] [] [(177, C177)] []
set_option maxHeartbeats 4000000 in
set_option maxRecDepth 100000 in
theorem wI176 {g : Cfg} (G : G176 g) {d : Nat} {mem : Mem} (hT : Tight d mem) {K_1 : Key} {t : TStructure} {c0 : TStructure} {m_0 : Md} (hm_0 : LentM m_0) {mk_1 : Md} (hk_1 : K_1.1 ≤ d) (hb_1 : mem K_1 = some [(.l mk_1 c0.nodes.length (encL c0.nodes)), (.l mk_1 c0.next.length (encL c0.next))]) {y} (hp : impl_Covers_1 t c0 = some y) : callo g d 176 [av m_0 t, .one (.ptr K_1 0)] mem = some (Res.res y, mem) := by
  have gP := G.P; have gt := G.tk; have gg := G.gh
  have c_177 := G.cs (177, C177) (by simp)
  have hT2 : memKill (fun k => decide (d < k.1)) mem = mem := hT
  have hm0 : ∀ t, mem (d + 1, t) = none := fun t => hT.none (by simp)
  have nk_1 : ∀ t, (K_1 = (d + 1, t)) = False := fun t => by simp; intro h; rw [h] at hk_1; simp at hk_1; omega
  refine start_in (Try.f176.body.getD .skip) [.tmp 3] G Try.func176 (by kernel_rfl) (by simp [Try.ntmps176]) rfl ?_
  unfold impl_Covers_1 at hp
  obtain ⟨y_1, h_2, hp⟩ := bind_some hp
  have c_3 := C177_eq h_2
  simp at c_3
  cases hp
  simp [Try.f176, Goal, FnEndI, memKill_hi, gP, gt, gg, hm0, c_177, hm_0.copy, hm_0.elem, hb_1, nk_1, c_3, hT2]

noncomputable def C161 : List AV → Option AV := specP (X := (List TStructure) × TStructure × Unit) fun x => impl_Covers x.1 x.2.1
theorem C161_eq {set s} {y} (h : impl_Covers set s = some y) : C161 [av .shr set, av .shr s] = some (Res.res y) := specP_eq (X := (List TStructure) × TStructure × Unit) (F := fun x => impl_Covers x.1 x.2.1) (x := (set, s, ())) h
noncomputable def g161 : Cfg := { P := Try.prog, take := [], keep := [((184, 2), { hd := [0, 1, 7, 8], bx := [], ex := [], rt := [4] })], gho := [], ctx := [(177, C177)] }
@[simp] theorem g161_P : g161.P = Try.prog := rfl
@[simp] theorem g161_t : g161.take = [] := rfl
@[simp] theorem g161_g : g161.gho = [] := rfl
@[simp] theorem g161_177 : lookN 177 g161.ctx = some C177 := rfl
@[simp] theorem g161_175 : lookN 175 g161.ctx = none := rfl
@[simp] theorem g161_184 : lookN 184 g161.ctx = none := rfl
@[simp] theorem g161_176 : lookN 176 g161.ctx = none := rfl
set_option maxHeartbeats 4000000 in
set_option maxRecDepth 100000 in
theorem w161 {set s} {y} (hp : impl_Covers set s = some y) : ∃ m, callo g161 0 161 [av .shr set, av .shr s] mem0 = some (Res.res y, m) := by
  have G_175 : G175 g161 := ⟨rfl, by kernel_rfl, rfl, fun t => by simp, fun i => by simp [lookK], by simp [g161, lookK], by simp⟩
  have G_184 : G184 g161 := ⟨rfl, by kernel_rfl, rfl, fun t => by simp, fun i => by simp [lookK], by simp [g161, lookK], by simp⟩
  have G_176 : G176 g161 := ⟨rfl, by kernel_rfl, rfl, fun t => by simp, fun i => by simp [lookK], by simp [g161, lookK], by simp⟩
  refine start_fn (Try.f161.body.getD .skip) [.tmp 4] rfl rfl Try.func161 (by kernel_rfl) (by kernel_rfl) (by simp [Try.ntmps161]) rfl ?_
  unfold impl_Covers at hp
  obtain ⟨y_1, h_2, hp⟩ := bind_some hp
  simp [Try.f161]
  refine goal_call [av .shr set, .one (.fn 176 [((1, 3), 0)])] (Res.res y_1) (by simp) (wI175 G_175 G_184 (by repeat (first | exact tight_mem0 _ | exact hT.up | exact hT | (simp only [true_and]; done) | refine Tight.upd ?_ (by simp) (by simp))) (.inl rfl) (by simp) (clo1 (p := fun x0 => impl_Covers_1 x0 s) fun d2 mem2 m0 x0 r2 hd2 ha2 hT2 hm0 hr2 => wI176 (mk_1 := .shr) G_176 hT2 hm0 (show 1 ≤ d2 from hd2) ((ha2 _ (Nat.le_refl _)).trans (by simp)) hr2) h_2) ?_
  cases hp
  simp [Goal, FnEnd]
theorem pc161 : PC Try.prog 161 C161 := pc_of (g := g161) (ctxOK_of [(177, C177)] rfl ⟨pc177, trivial⟩) ⟨Try.f161, Try.func161, by kernel_rfl, by kernel_rfl⟩ fun x y h => w161 h

noncomputable def C141 : List AV → Option AV := specP (X := (List TStructure) × THeap × Unit) fun x => impl_SetDescribes x.1 x.2.1
theorem C141_eq {set h_} {y} (h : impl_SetDescribes set h_ = some y) : C141 [av .shr set, av .shr h_] = some (Res.res y) := specP_eq (X := (List TStructure) × THeap × Unit) (F := fun x => impl_SetDescribes x.1 x.2.1) (x := (set, h_, ())) h
noncomputable def g141 : Cfg := { P := Try.prog, take := [], keep := [], gho := [], ctx := [(161, C161), (162, C162)] }
@[simp] theorem g141_P : g141.P = Try.prog := rfl
@[simp] theorem g141_t : g141.take = [] := rfl
@[simp] theorem g141_g : g141.gho = [] := rfl
@[simp] theorem g141_161 : lookN 161 g141.ctx = some C161 := rfl
@[simp] theorem g141_162 : lookN 162 g141.ctx = some C162 := rfl
set_option maxHeartbeats 4000000 in
set_option maxRecDepth 100000 in
theorem w141 {set h_} {y} (hp : impl_SetDescribes set h_ = some y) : ∃ m, callo g141 0 141 [av .shr set, av .shr h_] mem0 = some (Res.res y, m) := by
  refine start_fn (Try.f141.body.getD .skip) [.tmp 4] rfl rfl Try.func141 (by kernel_rfl) (by kernel_rfl) (by simp [Try.ntmps141]) rfl ?_
  unfold impl_SetDescribes at hp
  obtain ⟨y_1, h_2, hp⟩ := bind_some hp
  have c_3 := C162_eq h_2
  simp at c_3
  obtain ⟨y_4, h_5, hp⟩ := bind_some hp
  have c_6 := C161_eq h_5
  simp at c_6
  cases hp
  simp [Try.f141, Goal, FnEnd, c_3, c_6]
theorem pc141 : PC Try.prog 141 C141 := pc_of (g := g141) (ctxOK_of [(161, C161), (162, C162)] rfl ⟨pc161, pc162, trivial⟩) ⟨Try.f141, Try.func141, by kernel_rfl, by kernel_rfl⟩ fun x y h => w141 h

noncomputable def C50 : List AV → Option AV := specP (X := Int × Int × Unit) fun x => impl_lists x.1 x.2.1
theorem C50_eq {many bound} {y} (h : impl_lists many bound = some y) : C50 [av .shr many, av .shr bound] = some (Res.res y) := specP_eq (X := Int × Int × Unit) (F := fun x => impl_lists x.1 x.2.1) (x := (many, bound, ())) h
noncomputable def g50 : Cfg := { P := Try.prog, take := [(50, 27), (50, 36), (50, 38)], keep := [((50, 3), { hd := [1, 5, 12, 13], bx := [], ex := [5], rt := [4] }), ((50, 6), { hd := [1, 6, 12, 13, 16, 17, 18], bx := [], ex := [1, 6, 12, 13], rt := [4] }), ((50, 9), { hd := [1, 6, 8, 9, 12, 13, 16, 17, 18], bx := [], ex := [1, 6, 12, 13, 16, 17, 18], rt := [4] })], gho := [], ctx := [(106, C106)] }
@[simp] theorem g50_P : g50.P = Try.prog := rfl
@[simp] theorem g50_t : g50.take = [(50, 27), (50, 36), (50, 38)] := rfl
@[simp] theorem g50_g : g50.gho = [] := rfl
@[simp] theorem g50_106 : lookN 106 g50.ctx = some C106 := rfl
set_option maxHeartbeats 4000000 in
set_option maxRecDepth 100000 in
theorem w50 {many bound} {y} (hp : impl_lists many bound = some y) : ∃ m, callo g50 0 50 [av .shr many, av .shr bound] mem0 = some (Res.res y, m) := by
  refine start_fn (Try.f50.body.getD .skip) [.tmp 4] rfl rfl Try.func50 (by kernel_rfl) (by kernel_rfl) (by simp [Try.ntmps50]) rfl ?_
  unfold impl_lists at hp
  simp [Try.f50]
  obtain ⟨r_73, h_74, hp⟩ := bind_some hp
  obtain ⟨I_3, I_3_⟩ : ∃ I : (List (List Int)) × Int → St → Prop, I = (fun (s_1 : (List (List Int)) × Int) (σ : St) => σ.env 1 = .one (.s (.int .i64 bound)) ∧ σ.env 5 = .one (.l .own s_1.1.length (encL s_1.1)) ∧ σ.env 12 = .one (.s (.int .i64 many)) ∧ σ.env 13 = .one (.s (.int .i64 s_1.2)) ∧ σ.mem = mem0) := ⟨_, rfl⟩
  obtain ⟨X_4, X_4_⟩ : ∃ X : (List (List Int)) → Out → Prop, X = (fun (r_73 : (List (List Int))) (out : Out) => ∃ σ : St, out = .exit 0 σ ∧ σ.env 5 = .one (.l .own r_73.length (encL r_73)) ∧ σ.mem = mem0) := ⟨_, rfl⟩
  refine loopP ({ hd := [1, 5, 12, 13], bx := [], ex := [5], rt := [4] }) I_3 X_4 h_74 (by exact rfl) ?_ ?_ ?_
  · rw [I_3_]
    exact ⟨by simp [restrict_env], by simp [restrict_env], by simp [restrict_env], by simp [restrict_env], by simp [restrict_mem]⟩
  · intro s_1 σ_5 a_2 hI hp
    rw [I_3_] at hI
    obtain ⟨q_6, q_7, q_8, q_9, q_10⟩ := hI
    try simp [q_6, q_7, q_8, q_9, q_10]
    rcases cond_cases hp with ⟨h_11, hp⟩ | ⟨h_11, hp⟩
    · try simp at h_11
      try simp [q_6, q_7, q_8, q_9, q_10, h_11]
      obtain ⟨r_65, h_66, hp⟩ := bind_some hp
      obtain ⟨I_14, I_14_⟩ : ∃ I : (List (List Int)) × Int → St → Prop, I = (fun (s_12 : (List (List Int)) × Int) (σ : St) => σ.env 1 = .one (.s (.int .i64 bound)) ∧ σ.env 6 = .one (.l .own s_12.1.length (encL s_12.1)) ∧ σ.env 12 = .one (.s (.int .i64 many)) ∧ σ.env 13 = .one (.s (.int .i64 s_1.2)) ∧ σ.env 16 = .one (.l .bor s_1.1.length (encL s_1.1)) ∧ σ.env 17 = .one (.s (.int .i64 (s_1.1.length : Int))) ∧ σ.env 18 = .one (.s (.int .i64 s_12.2)) ∧ σ.mem = mem0) := ⟨_, rfl⟩
      obtain ⟨X_15, X_15_⟩ : ∃ X : (List (List Int)) → Out → Prop, X = (fun (r_65 : (List (List Int))) (out : Out) => ∃ σ : St, out = .exit 2 σ ∧ σ.env 1 = .one (.s (.int .i64 bound)) ∧ σ.env 6 = .one (.l .own r_65.length (encL r_65)) ∧ σ.env 12 = .one (.s (.int .i64 many)) ∧ σ.env 13 = .one (.s (.int .i64 s_1.2)) ∧ σ.mem = mem0) := ⟨_, rfl⟩
      refine loopP ({ hd := [1, 6, 12, 13, 16, 17, 18], bx := [], ex := [1, 6, 12, 13], rt := [4] }) I_14 X_15 h_66 (by exact rfl) ?_ ?_ ?_
      · rw [I_14_]
        exact ⟨by simp [restrict_env, q_6, q_7, q_8, q_9, q_10, h_11], by simp [restrict_env, q_6, q_7, q_8, q_9, q_10, h_11], by simp [restrict_env, q_6, q_7, q_8, q_9, q_10, h_11], by simp [restrict_env, q_6, q_7, q_8, q_9, q_10, h_11], by simp [restrict_env, q_6, q_7, q_8, q_9, q_10, h_11], by simp [restrict_env, q_6, q_7, q_8, q_9, q_10, h_11], by simp [restrict_env, q_6, q_7, q_8, q_9, q_10, h_11], by simp [restrict_mem, q_6, q_7, q_8, q_9, q_10, h_11]⟩
      · intro s_12 σ_16 a_13 hI hp
        rw [I_14_] at hI
        obtain ⟨q_17, q_18, q_19, q_20, q_21, q_22, q_23, q_24⟩ := hI
        try simp [h_11, q_17, q_18, q_19, q_20, q_21, q_22, q_23, q_24]
        rcases cond_cases hp with ⟨h_25, hp⟩ | ⟨h_25, hp⟩
        · try simp at h_25
          obtain ⟨e_26, h_27, hp⟩ := bind_some hp
          have b_28 := at_lo h_27
          have b_29 := at_hi h_27
          try simp at b_28
          try simp at b_29
          have c_30 := seg_at' h_27 0 1 (by decide) (ds := [.sl e_26.length (encL e_26)]) rfl
          try simp at c_30
          try simp [h_11, q_17, q_18, q_19, q_20, q_21, q_22, q_23, q_24, h_25, b_28, b_29, c_30]
          obtain ⟨r_54, h_55, hp⟩ := bind_some hp
          obtain ⟨I_33, I_33_⟩ : ∃ I : (List (List Int)) × Int → St → Prop, I = (fun (s_31 : (List (List Int)) × Int) (σ : St) => σ.env 1 = .one (.s (.int .i64 bound)) ∧ σ.env 6 = .one (.l .own s_31.1.length (encL s_31.1)) ∧ σ.env 8 = .one (.l .bor e_26.length (encL e_26)) ∧ σ.env 9 = .one (.s (.int .i64 s_31.2)) ∧ σ.env 12 = .one (.s (.int .i64 many)) ∧ σ.env 13 = .one (.s (.int .i64 s_1.2)) ∧ σ.env 16 = .one (.l .bor s_1.1.length (encL s_1.1)) ∧ σ.env 17 = .one (.s (.int .i64 (s_1.1.length : Int))) ∧ σ.env 18 = .one (.s (.int .i64 s_12.2)) ∧ σ.mem = mem0) := ⟨_, rfl⟩
          obtain ⟨X_34, X_34_⟩ : ∃ X : (List (List Int)) → Out → Prop, X = (fun (r_54 : (List (List Int))) (out : Out) => ∃ σ : St, out = .exit 4 σ ∧ σ.env 1 = .one (.s (.int .i64 bound)) ∧ σ.env 6 = .one (.l .own r_54.length (encL r_54)) ∧ σ.env 12 = .one (.s (.int .i64 many)) ∧ σ.env 13 = .one (.s (.int .i64 s_1.2)) ∧ σ.env 16 = .one (.l .bor s_1.1.length (encL s_1.1)) ∧ σ.env 17 = .one (.s (.int .i64 (s_1.1.length : Int))) ∧ σ.env 18 = .one (.s (.int .i64 s_12.2)) ∧ σ.mem = mem0) := ⟨_, rfl⟩
          refine loopP ({ hd := [1, 6, 8, 9, 12, 13, 16, 17, 18], bx := [], ex := [1, 6, 12, 13, 16, 17, 18], rt := [4] }) I_33 X_34 h_55 (by exact rfl) ?_ ?_ ?_
          · rw [I_33_]
            exact ⟨by simp [restrict_env, h_11, q_17, q_18, q_19, q_20, q_21, q_22, q_23, q_24, h_25], by simp [restrict_env, h_11, q_17, q_18, q_19, q_20, q_21, q_22, q_23, q_24, h_25], by simp [restrict_env, h_11, q_17, q_18, q_19, q_20, q_21, q_22, q_23, q_24, h_25], by simp [restrict_env, h_11, q_17, q_18, q_19, q_20, q_21, q_22, q_23, q_24, h_25], by simp [restrict_env, h_11, q_17, q_18, q_19, q_20, q_21, q_22, q_23, q_24, h_25], by simp [restrict_env, h_11, q_17, q_18, q_19, q_20, q_21, q_22, q_23, q_24, h_25], by simp [restrict_env, h_11, q_17, q_18, q_19, q_20, q_21, q_22, q_23, q_24, h_25], by simp [restrict_env, h_11, q_17, q_18, q_19, q_20, q_21, q_22, q_23, q_24, h_25], by simp [restrict_env, h_11, q_17, q_18, q_19, q_20, q_21, q_22, q_23, q_24, h_25], by simp [restrict_mem, h_11, q_17, q_18, q_19, q_20, q_21, q_22, q_23, q_24, h_25]⟩
          · intro s_31 σ_35 a_32 hI hp
            rw [I_33_] at hI
            obtain ⟨q_36, q_37, q_38, q_39, q_40, q_41, q_42, q_43, q_44, q_45⟩ := hI
            try simp [h_11, h_25, q_36, q_37, q_38, q_39, q_40, q_41, q_42, q_43, q_44, q_45]
            rcases cond_cases hp with ⟨h_46, hp⟩ | ⟨h_46, hp⟩
            · try simp at h_46
              obtain ⟨y_47, h_48, hp⟩ := bind_some hp
              have c_49 := C106_eq h_48
              simp at c_49
              obtain ⟨_, h_50, hp⟩ := bind_some hp
              have b_51 := room_ok h_50
              try simp at b_51
              obtain ⟨_, h_52, hp⟩ := bind_some hp
              have b_53 := room_ok h_52
              try simp at b_53
              cases hp
              try simp [h_11, h_25, q_36, q_37, q_38, q_39, q_40, q_41, q_42, q_43, q_44, q_45, h_46, c_49, b_51, b_53]
              refine goal_next ?_
              rw [I_33_]
              exact ⟨by simp [restrict_env, h_11, h_25, q_36, q_37, q_38, q_39, q_40, q_41, q_42, q_43, q_44, q_45, h_46, c_49, b_51, b_53], by simp [restrict_env, h_11, h_25, q_36, q_37, q_38, q_39, q_40, q_41, q_42, q_43, q_44, q_45, h_46, c_49, b_51, b_53], by simp [restrict_env, h_11, h_25, q_36, q_37, q_38, q_39, q_40, q_41, q_42, q_43, q_44, q_45, h_46, c_49, b_51, b_53], by simp [restrict_env, h_11, h_25, q_36, q_37, q_38, q_39, q_40, q_41, q_42, q_43, q_44, q_45, h_46, c_49, b_51, b_53], by simp [restrict_env, h_11, h_25, q_36, q_37, q_38, q_39, q_40, q_41, q_42, q_43, q_44, q_45, h_46, c_49, b_51, b_53], by simp [restrict_env, h_11, h_25, q_36, q_37, q_38, q_39, q_40, q_41, q_42, q_43, q_44, q_45, h_46, c_49, b_51, b_53], by simp [restrict_env, h_11, h_25, q_36, q_37, q_38, q_39, q_40, q_41, q_42, q_43, q_44, q_45, h_46, c_49, b_51, b_53], by simp [restrict_env, h_11, h_25, q_36, q_37, q_38, q_39, q_40, q_41, q_42, q_43, q_44, q_45, h_46, c_49, b_51, b_53], by simp [restrict_env, h_11, h_25, q_36, q_37, q_38, q_39, q_40, q_41, q_42, q_43, q_44, q_45, h_46, c_49, b_51, b_53], by simp [restrict_mem, h_11, h_25, q_36, q_37, q_38, q_39, q_40, q_41, q_42, q_43, q_44, q_45, h_46, c_49, b_51, b_53]⟩
            · try simp at h_46
              cases hp
              try simp [h_11, h_25, q_36, q_37, q_38, q_39, q_40, q_41, q_42, q_43, q_44, q_45, h_46]
              refine goal_outX ?_
              rw [X_34_]
              exact ⟨_, rfl, by simp [restrict_env, h_11, h_25, q_36, q_37, q_38, q_39, q_40, q_41, q_42, q_43, q_44, q_45, h_46], by simp [restrict_env, h_11, h_25, q_36, q_37, q_38, q_39, q_40, q_41, q_42, q_43, q_44, q_45, h_46], by simp [restrict_env, h_11, h_25, q_36, q_37, q_38, q_39, q_40, q_41, q_42, q_43, q_44, q_45, h_46], by simp [restrict_env, h_11, h_25, q_36, q_37, q_38, q_39, q_40, q_41, q_42, q_43, q_44, q_45, h_46], by simp [restrict_env, h_11, h_25, q_36, q_37, q_38, q_39, q_40, q_41, q_42, q_43, q_44, q_45, h_46], by simp [restrict_env, h_11, h_25, q_36, q_37, q_38, q_39, q_40, q_41, q_42, q_43, q_44, q_45, h_46], by simp [restrict_env, h_11, h_25, q_36, q_37, q_38, q_39, q_40, q_41, q_42, q_43, q_44, q_45, h_46], by simp [restrict_mem, h_11, h_25, q_36, q_37, q_38, q_39, q_40, q_41, q_42, q_43, q_44, q_45, h_46]⟩
          · intro out hX
            rw [X_34_] at hX
            obtain ⟨σ_56, rfl, q_57, q_58, q_59, q_60, q_61, q_62, q_63, q_64⟩ := hX
            cases hp
            try simp [h_11, h_25, q_57, q_58, q_59, q_60, q_61, q_62, q_63, q_64]
            refine goal_next ?_
            rw [I_14_]
            exact ⟨by simp [restrict_env, h_11, h_25, q_57, q_58, q_59, q_60, q_61, q_62, q_63, q_64], by simp [restrict_env, h_11, h_25, q_57, q_58, q_59, q_60, q_61, q_62, q_63, q_64], by simp [restrict_env, h_11, h_25, q_57, q_58, q_59, q_60, q_61, q_62, q_63, q_64], by simp [restrict_env, h_11, h_25, q_57, q_58, q_59, q_60, q_61, q_62, q_63, q_64], by simp [restrict_env, h_11, h_25, q_57, q_58, q_59, q_60, q_61, q_62, q_63, q_64], by simp [restrict_env, h_11, h_25, q_57, q_58, q_59, q_60, q_61, q_62, q_63, q_64], by simp [restrict_env, h_11, h_25, q_57, q_58, q_59, q_60, q_61, q_62, q_63, q_64], by simp [restrict_mem, h_11, h_25, q_57, q_58, q_59, q_60, q_61, q_62, q_63, q_64]⟩
        · try simp at h_25
          cases hp
          try simp [h_11, q_17, q_18, q_19, q_20, q_21, q_22, q_23, q_24, h_25]
          refine goal_outX ?_
          rw [X_15_]
          exact ⟨_, rfl, by simp [restrict_env, h_11, q_17, q_18, q_19, q_20, q_21, q_22, q_23, q_24, h_25], by simp [restrict_env, h_11, q_17, q_18, q_19, q_20, q_21, q_22, q_23, q_24, h_25], by simp [restrict_env, h_11, q_17, q_18, q_19, q_20, q_21, q_22, q_23, q_24, h_25], by simp [restrict_env, h_11, q_17, q_18, q_19, q_20, q_21, q_22, q_23, q_24, h_25], by simp [restrict_mem, h_11, q_17, q_18, q_19, q_20, q_21, q_22, q_23, q_24, h_25]⟩
      · intro out hX
        rw [X_15_] at hX
        obtain ⟨σ_67, rfl, q_68, q_69, q_70, q_71, q_72⟩ := hX
        cases hp
        try simp [h_11, q_68, q_69, q_70, q_71, q_72]
        refine goal_next ?_
        rw [I_3_]
        exact ⟨by simp [restrict_env, h_11, q_68, q_69, q_70, q_71, q_72], by simp [restrict_env, h_11, q_68, q_69, q_70, q_71, q_72], by simp [restrict_env, h_11, q_68, q_69, q_70, q_71, q_72], by simp [restrict_env, h_11, q_68, q_69, q_70, q_71, q_72], by simp [restrict_mem, h_11, q_68, q_69, q_70, q_71, q_72]⟩
    · try simp at h_11
      cases hp
      try simp [q_6, q_7, q_8, q_9, q_10, h_11]
      refine goal_outX ?_
      rw [X_4_]
      exact ⟨_, rfl, by simp [restrict_env, q_6, q_7, q_8, q_9, q_10, h_11], by simp [restrict_mem, q_6, q_7, q_8, q_9, q_10, h_11]⟩
  · intro out hX
    rw [X_4_] at hX
    obtain ⟨σ_75, rfl, q_76, q_77⟩ := hX
    cases hp
    simp [Goal, FnEnd, q_76, q_77]
theorem pc50 : PC Try.prog 50 C50 := pc_of (g := g50) (ctxOK_of [(106, C106)] rfl ⟨pc106, trivial⟩) ⟨Try.f50, Try.func50, by kernel_rfl, by kernel_rfl⟩ fun x y h => w50 h

noncomputable def C108 : List AV → Option AV := specP (X := THeap × Unit) fun x => impl_Heap_isCyclic x.1
theorem C108_eq {h_} {y} (h : impl_Heap_isCyclic h_ = some y) : C108 [av .shr h_] = some (Res.res y) := specP_eq (X := THeap × Unit) (F := fun x => impl_Heap_isCyclic x.1) (x := (h_, ())) h
noncomputable def g108 : Cfg := { P := Try.prog, take := [], keep := [((108, 2), { hd := [1, 6, 7], bx := [], ex := [], rt := [2] })], gho := [], ctx := [(155, C155), (156, C156)] }
@[simp] theorem g108_P : g108.P = Try.prog := rfl
@[simp] theorem g108_t : g108.take = [] := rfl
@[simp] theorem g108_g : g108.gho = [] := rfl
@[simp] theorem g108_155 : lookN 155 g108.ctx = some C155 := rfl
@[simp] theorem g108_156 : lookN 156 g108.ctx = some C156 := rfl
set_option maxHeartbeats 4000000 in
set_option maxRecDepth 100000 in
theorem w108 {h_} {y} (hp : impl_Heap_isCyclic h_ = some y) : ∃ m, callo g108 0 108 [av .shr h_] mem0 = some (Res.res y, m) := by
  refine start_fn (Try.f108.body.getD .skip) [.tmp 2] rfl rfl Try.func108 (by kernel_rfl) (by kernel_rfl) (by simp [Try.ntmps108]) rfl ?_
  unfold impl_Heap_isCyclic at hp
  simp [Try.f108]
  obtain ⟨r_24, h_25, hp⟩ := bind_some hp
  obtain ⟨I_3, I_3_⟩ : ∃ I : Int → St → Prop, I = (fun (s_1 : Int) (σ : St) => σ.env 1 = .one (.ptr (1, 1) 0) ∧ σ.env 6 = .one (.s (.int .i64 (h_.next.length : Int))) ∧ σ.env 7 = .one (.s (.int .i64 s_1)) ∧ σ.mem (1, 1) = some [(.l .shr h_.vars.length (encL h_.vars)), (.l .shr h_.next.length (encL h_.next))] ∧ NoBox [(1, 1)] σ.mem) := ⟨_, rfl⟩
  obtain ⟨X_4, X_4_⟩ : ∃ X : ((Bool) ⊕ (Unit)) → Out → Prop, X = (fun (r_24 : (Bool) ⊕ (Unit)) (out : Out) => Sum.elim (fun r_24 => ∃ σ : St, out = .ret σ ∧ σ.env 2 = .one (.s (.bool r_24)) ∧ σ.mem (1, 1) = some [(.l .shr h_.vars.length (encL h_.vars)), (.l .shr h_.next.length (encL h_.next))] ∧ NoBox [(1, 1)] σ.mem) (fun r_24 => ∃ σ : St, out = .exit 0 σ ∧ σ.mem (1, 1) = some [(.l .shr h_.vars.length (encL h_.vars)), (.l .shr h_.next.length (encL h_.next))] ∧ NoBox [(1, 1)] σ.mem) r_24) := ⟨_, rfl⟩
  refine loopP ({ hd := [1, 6, 7], bx := [], ex := [], rt := [2] }) I_3 X_4 h_25 (by exact rfl) ?_ ?_ ?_
  · rw [I_3_]
    exact ⟨by simp [restrict_env], by simp [restrict_env], by simp [restrict_env], by simp [restrict_mem], NoBox.restrict (by intro k hk hb; simp at hk hb; simp [hk, hb])⟩
  · intro s_1 σ_5 a_2 hI hp
    rw [I_3_] at hI
    obtain ⟨q_6, q_7, q_8, q_9, hn_10⟩ := hI
    try simp [q_6, q_7, q_8, q_9]
    rcases cond_cases hp with ⟨h_11, hp⟩ | ⟨h_11, hp⟩
    · try simp at h_11
      obtain ⟨e_12, h_13, hp⟩ := bind_some hp
      have b_14 := at_lo h_13
      have b_15 := at_hi h_13
      try simp at b_14
      try simp at b_15
      have c_16 := seg_at' h_13 0 1 (by decide) (ds := [.sc (.int .i64 e_12)]) rfl
      try simp at c_16
      obtain ⟨y_17, h_18, hp⟩ := bind_some hp
      have c_19 := C156_eq h_18
      simp at c_19
      obtain ⟨y_20, h_21, hp⟩ := bind_some hp
      have c_22 := C155_eq h_21
      simp at c_22
      try simp [q_6, q_7, q_8, q_9, h_11, b_14, b_15, c_16, c_19, c_22]
      rcases cond_cases hp with ⟨h_23, hp⟩ | ⟨h_23, hp⟩
      · try simp at h_23
        cases hp
        try simp [q_6, q_7, q_8, q_9, h_11, h_23]
        refine goal_outR ?_
        rw [X_4_]
        exact ⟨_, rfl, by simp [restrict_env, q_6, q_7, q_8, q_9, h_11, h_23], by simp [restrict_mem, q_6, q_7, q_8, q_9, h_11, h_23], NoBox.restrict (by intro k hk hb; simp at hk hb; simp [hk, hb, q_6, q_7, q_8, q_9, h_11, h_23, hn_10 k (by simp [hk, hb])])⟩
      · try simp at h_23
        cases hp
        try simp [q_6, q_7, q_8, q_9, h_11, h_23]
        refine goal_next ?_
        rw [I_3_]
        exact ⟨by simp [restrict_env, q_6, q_7, q_8, q_9, h_11, h_23], by simp [restrict_env, q_6, q_7, q_8, q_9, h_11, h_23], by simp [restrict_env, q_6, q_7, q_8, q_9, h_11, h_23], by simp [restrict_mem, q_6, q_7, q_8, q_9, h_11, h_23], NoBox.restrict (by intro k hk hb; simp at hk hb; simp [hk, hb, q_6, q_7, q_8, q_9, h_11, h_23, hn_10 k (by simp [hk, hb])])⟩
    · try simp at h_11
      cases hp
      try simp [q_6, q_7, q_8, q_9, h_11]
      refine goal_outX ?_
      rw [X_4_]
      exact ⟨_, rfl, by simp [restrict_mem, q_6, q_7, q_8, q_9, h_11], NoBox.restrict (by intro k hk hb; simp at hk hb; simp [hk, hb, q_6, q_7, q_8, q_9, h_11, hn_10 k (by simp [hk, hb])])⟩
  · intro out hX
    rw [X_4_] at hX
    rcases r_24 with r_24 | r_24
    · simp only [Sum.elim_inl, Sum.elim_inr] at hX hp
      obtain ⟨σ_26, rfl, q_27, q_28, hn_29⟩ := hX
      cases hp
      simp [Goal, FnEnd, q_27, q_28]
    · simp only [Sum.elim_inl, Sum.elim_inr] at hX hp
      obtain ⟨σ_30, rfl, q_31, hn_32⟩ := hX
      cases hp
      simp [Goal, FnEnd, q_31]
theorem pc108 : PC Try.prog 108 C108 := pc_of (g := g108) (ctxOK_of [(155, C155), (156, C156)] rfl ⟨pc155, pc156, trivial⟩) ⟨Try.f108, Try.func108, by kernel_rfl, by kernel_rfl⟩ fun x y h => w108 h

noncomputable def C109 : List AV → Option AV := specP (X := THeap × Unit) fun x => impl_Heap_met x.1
theorem C109_eq {h_} {y} (h : impl_Heap_met h_ = some y) : C109 [av .shr h_] = some (Res.res y) := specP_eq (X := THeap × Unit) (F := fun x => impl_Heap_met x.1) (x := (h_, ())) h
noncomputable def g109 : Cfg := { P := Try.prog, take := [(109, 28), (109, 34)], keep := [((109, 3), { hd := [1, 3, 10, 11, 12], bx := [], ex := [3], rt := [2] }), ((109, 6), { hd := [1, 3, 10, 11, 12, 18, 19, 20], bx := [], ex := [1, 3, 10, 11, 12], rt := [2] })], gho := [], ctx := [(155, C155), (156, C156)] }
@[simp] theorem g109_P : g109.P = Try.prog := rfl
@[simp] theorem g109_t : g109.take = [(109, 28), (109, 34)] := rfl
@[simp] theorem g109_g : g109.gho = [] := rfl
@[simp] theorem g109_155 : lookN 155 g109.ctx = some C155 := rfl
@[simp] theorem g109_156 : lookN 156 g109.ctx = some C156 := rfl
set_option maxHeartbeats 4000000 in
set_option maxRecDepth 100000 in
theorem w109 {h_} {y} (hp : impl_Heap_met h_ = some y) : ∃ m, callo g109 0 109 [av .shr h_] mem0 = some (Res.res y, m) := by
  refine start_fn (Try.f109.body.getD .skip) [.tmp 2] rfl rfl Try.func109 (by kernel_rfl) (by kernel_rfl) (by simp [Try.ntmps109]) rfl ?_
  unfold impl_Heap_met at hp
  simp [Try.f109]
  obtain ⟨r_59, h_60, hp⟩ := bind_some hp
  obtain ⟨I_3, I_3_⟩ : ∃ I : (List Int) × Int → St → Prop, I = (fun (s_1 : (List Int) × Int) (σ : St) => σ.env 1 = .one (.ptr (1, 1) 0) ∧ σ.env 3 = .one (.l .own s_1.1.length (encL s_1.1)) ∧ σ.env 10 = .one (.l .shr h_.vars.length (encL h_.vars)) ∧ σ.env 11 = .one (.s (.int .i64 (h_.vars.length : Int))) ∧ σ.env 12 = .one (.s (.int .i64 s_1.2)) ∧ σ.mem (1, 1) = some [(.l .shr h_.vars.length (encL h_.vars)), (.l .shr h_.next.length (encL h_.next))] ∧ NoBox [(1, 1)] σ.mem) := ⟨_, rfl⟩
  obtain ⟨X_4, X_4_⟩ : ∃ X : (List Int) → Out → Prop, X = (fun (r_59 : (List Int)) (out : Out) => ∃ σ : St, out = .exit 0 σ ∧ σ.env 3 = .one (.l .own r_59.length (encL r_59)) ∧ σ.mem (1, 1) = some [(.l .shr h_.vars.length (encL h_.vars)), (.l .shr h_.next.length (encL h_.next))] ∧ NoBox [(1, 1)] σ.mem) := ⟨_, rfl⟩
  refine loopP ({ hd := [1, 3, 10, 11, 12], bx := [], ex := [3], rt := [2] }) I_3 X_4 h_60 (by exact rfl) ?_ ?_ ?_
  · rw [I_3_]
    exact ⟨by simp [restrict_env], by simp [restrict_env], by simp [restrict_env], by simp [restrict_env], by simp [restrict_env], by simp [restrict_mem], NoBox.restrict (by intro k hk hb; simp at hk hb; simp [hk, hb])⟩
  · intro s_1 σ_5 a_2 hI hp
    rw [I_3_] at hI
    obtain ⟨q_6, q_7, q_8, q_9, q_10, q_11, hn_12⟩ := hI
    try simp [q_6, q_7, q_8, q_9, q_10, q_11]
    rcases cond_cases hp with ⟨h_13, hp⟩ | ⟨h_13, hp⟩
    · try simp at h_13
      obtain ⟨e_14, h_15, hp⟩ := bind_some hp
      have b_16 := at_lo h_15
      have b_17 := at_hi h_15
      try simp at b_16
      try simp at b_17
      have c_18 := seg_at' h_15 0 1 (by decide) (ds := [.sc (.int .i64 e_14)]) rfl
      try simp at c_18
      obtain ⟨y_19, h_20, hp⟩ := bind_some hp
      have c_21 := C156_eq h_20
      simp at c_21
      try simp [q_6, q_7, q_8, q_9, q_10, q_11, h_13, b_16, b_17, c_18, c_21]
      obtain ⟨r_49, h_50, hp⟩ := bind_some hp
      obtain ⟨I_24, I_24_⟩ : ∃ I : Int × (List Int) → St → Prop, I = (fun (s_22 : Int × (List Int)) (σ : St) => σ.env 1 = .one (.ptr (1, 1) 0) ∧ σ.env 3 = .one (.l .own s_22.2.length (encL s_22.2)) ∧ σ.env 10 = .one (.l .shr h_.vars.length (encL h_.vars)) ∧ σ.env 11 = .one (.s (.int .i64 (h_.vars.length : Int))) ∧ σ.env 12 = .one (.s (.int .i64 s_1.2)) ∧ σ.env 18 = .one (.l .own y_19.length (encL y_19)) ∧ σ.env 19 = .one (.s (.int .i64 (y_19.length : Int))) ∧ σ.env 20 = .one (.s (.int .i64 s_22.1)) ∧ σ.mem (1, 1) = some [(.l .shr h_.vars.length (encL h_.vars)), (.l .shr h_.next.length (encL h_.next))] ∧ NoBox [(1, 1)] σ.mem) := ⟨_, rfl⟩
      obtain ⟨X_25, X_25_⟩ : ∃ X : (List Int) → Out → Prop, X = (fun (r_49 : (List Int)) (out : Out) => ∃ σ : St, out = .exit 2 σ ∧ σ.env 1 = .one (.ptr (1, 1) 0) ∧ σ.env 3 = .one (.l .own r_49.length (encL r_49)) ∧ σ.env 10 = .one (.l .shr h_.vars.length (encL h_.vars)) ∧ σ.env 11 = .one (.s (.int .i64 (h_.vars.length : Int))) ∧ σ.env 12 = .one (.s (.int .i64 s_1.2)) ∧ σ.mem (1, 1) = some [(.l .shr h_.vars.length (encL h_.vars)), (.l .shr h_.next.length (encL h_.next))] ∧ NoBox [(1, 1)] σ.mem) := ⟨_, rfl⟩
      refine loopP ({ hd := [1, 3, 10, 11, 12, 18, 19, 20], bx := [], ex := [1, 3, 10, 11, 12], rt := [2] }) I_24 X_25 h_50 (by exact rfl) ?_ ?_ ?_
      · rw [I_24_]
        exact ⟨by simp [restrict_env, q_6, q_7, q_8, q_9, q_10, q_11, h_13], by simp [restrict_env, q_6, q_7, q_8, q_9, q_10, q_11, h_13], by simp [restrict_env, q_6, q_7, q_8, q_9, q_10, q_11, h_13], by simp [restrict_env, q_6, q_7, q_8, q_9, q_10, q_11, h_13], by simp [restrict_env, q_6, q_7, q_8, q_9, q_10, q_11, h_13], by simp [restrict_env, q_6, q_7, q_8, q_9, q_10, q_11, h_13], by simp [restrict_env, q_6, q_7, q_8, q_9, q_10, q_11, h_13], by simp [restrict_env, q_6, q_7, q_8, q_9, q_10, q_11, h_13], by simp [restrict_mem, q_6, q_7, q_8, q_9, q_10, q_11, h_13], NoBox.restrict (by intro k hk hb; simp at hk hb; simp [hk, hb, q_6, q_7, q_8, q_9, q_10, q_11, h_13, hn_12 k (by simp [hk, hb])])⟩
      · intro s_22 σ_26 a_23 hI hp
        rw [I_24_] at hI
        obtain ⟨q_27, q_28, q_29, q_30, q_31, q_32, q_33, q_34, q_35, hn_36⟩ := hI
        try simp [h_13, q_27, q_28, q_29, q_30, q_31, q_32, q_33, q_34, q_35]
        rcases cond_cases hp with ⟨h_37, hp⟩ | ⟨h_37, hp⟩
        · try simp at h_37
          obtain ⟨e_38, h_39, hp⟩ := bind_some hp
          have b_40 := at_lo h_39
          have b_41 := at_hi h_39
          try simp at b_40
          try simp at b_41
          have c_42 := seg_at' h_39 0 1 (by decide) (ds := [.sc (.int .i64 e_38)]) rfl
          try simp at c_42
          obtain ⟨y_43, h_44, hp⟩ := bind_some hp
          have c_45 := C155_eq h_44
          simp at c_45
          try simp [h_13, q_27, q_28, q_29, q_30, q_31, q_32, q_33, q_34, q_35, h_37, b_40, b_41, c_42, c_45]
          rcases cond_cases hp with ⟨h_46, hp⟩ | ⟨h_46, hp⟩
          · try simp at h_46
            cases hp
            try simp [h_13, q_27, q_28, q_29, q_30, q_31, q_32, q_33, q_34, q_35, h_37, h_46]
            refine goal_next ?_
            rw [I_24_]
            exact ⟨by simp [restrict_env, h_13, q_27, q_28, q_29, q_30, q_31, q_32, q_33, q_34, q_35, h_37, h_46], by simp [restrict_env, h_13, q_27, q_28, q_29, q_30, q_31, q_32, q_33, q_34, q_35, h_37, h_46], by simp [restrict_env, h_13, q_27, q_28, q_29, q_30, q_31, q_32, q_33, q_34, q_35, h_37, h_46], by simp [restrict_env, h_13, q_27, q_28, q_29, q_30, q_31, q_32, q_33, q_34, q_35, h_37, h_46], by simp [restrict_env, h_13, q_27, q_28, q_29, q_30, q_31, q_32, q_33, q_34, q_35, h_37, h_46], by simp [restrict_env, h_13, q_27, q_28, q_29, q_30, q_31, q_32, q_33, q_34, q_35, h_37, h_46], by simp [restrict_env, h_13, q_27, q_28, q_29, q_30, q_31, q_32, q_33, q_34, q_35, h_37, h_46], by simp [restrict_env, h_13, q_27, q_28, q_29, q_30, q_31, q_32, q_33, q_34, q_35, h_37, h_46], by simp [restrict_mem, h_13, q_27, q_28, q_29, q_30, q_31, q_32, q_33, q_34, q_35, h_37, h_46], NoBox.restrict (by intro k hk hb; simp at hk hb; simp [hk, hb, h_13, q_27, q_28, q_29, q_30, q_31, q_32, q_33, q_34, q_35, h_37, h_46, hn_36 k (by simp [hk, hb])])⟩
          · try simp at h_46
            obtain ⟨_, h_47, hp⟩ := bind_some hp
            have b_48 := room_ok h_47
            try simp at b_48
            cases hp
            try simp [h_13, q_27, q_28, q_29, q_30, q_31, q_32, q_33, q_34, q_35, h_37, h_46, b_48]
            refine goal_next ?_
            rw [I_24_]
            exact ⟨by simp [restrict_env, h_13, q_27, q_28, q_29, q_30, q_31, q_32, q_33, q_34, q_35, h_37, h_46, b_48], by simp [restrict_env, h_13, q_27, q_28, q_29, q_30, q_31, q_32, q_33, q_34, q_35, h_37, h_46, b_48], by simp [restrict_env, h_13, q_27, q_28, q_29, q_30, q_31, q_32, q_33, q_34, q_35, h_37, h_46, b_48], by simp [restrict_env, h_13, q_27, q_28, q_29, q_30, q_31, q_32, q_33, q_34, q_35, h_37, h_46, b_48], by simp [restrict_env, h_13, q_27, q_28, q_29, q_30, q_31, q_32, q_33, q_34, q_35, h_37, h_46, b_48], by simp [restrict_env, h_13, q_27, q_28, q_29, q_30, q_31, q_32, q_33, q_34, q_35, h_37, h_46, b_48], by simp [restrict_env, h_13, q_27, q_28, q_29, q_30, q_31, q_32, q_33, q_34, q_35, h_37, h_46, b_48], by simp [restrict_env, h_13, q_27, q_28, q_29, q_30, q_31, q_32, q_33, q_34, q_35, h_37, h_46, b_48], by simp [restrict_mem, h_13, q_27, q_28, q_29, q_30, q_31, q_32, q_33, q_34, q_35, h_37, h_46, b_48], NoBox.restrict (by intro k hk hb; simp at hk hb; simp [hk, hb, h_13, q_27, q_28, q_29, q_30, q_31, q_32, q_33, q_34, q_35, h_37, h_46, b_48, hn_36 k (by simp [hk, hb])])⟩
        · try simp at h_37
          cases hp
          try simp [h_13, q_27, q_28, q_29, q_30, q_31, q_32, q_33, q_34, q_35, h_37]
          refine goal_outX ?_
          rw [X_25_]
          exact ⟨_, rfl, by simp [restrict_env, h_13, q_27, q_28, q_29, q_30, q_31, q_32, q_33, q_34, q_35, h_37], by simp [restrict_env, h_13, q_27, q_28, q_29, q_30, q_31, q_32, q_33, q_34, q_35, h_37], by simp [restrict_env, h_13, q_27, q_28, q_29, q_30, q_31, q_32, q_33, q_34, q_35, h_37], by simp [restrict_env, h_13, q_27, q_28, q_29, q_30, q_31, q_32, q_33, q_34, q_35, h_37], by simp [restrict_env, h_13, q_27, q_28, q_29, q_30, q_31, q_32, q_33, q_34, q_35, h_37], by simp [restrict_mem, h_13, q_27, q_28, q_29, q_30, q_31, q_32, q_33, q_34, q_35, h_37], NoBox.restrict (by intro k hk hb; simp at hk hb; simp [hk, hb, h_13, q_27, q_28, q_29, q_30, q_31, q_32, q_33, q_34, q_35, h_37, hn_36 k (by simp [hk, hb])])⟩
      · intro out hX
        rw [X_25_] at hX
        obtain ⟨σ_51, rfl, q_52, q_53, q_54, q_55, q_56, q_57, hn_58⟩ := hX
        cases hp
        try simp [h_13, q_52, q_53, q_54, q_55, q_56, q_57]
        refine goal_next ?_
        rw [I_3_]
        exact ⟨by simp [restrict_env, h_13, q_52, q_53, q_54, q_55, q_56, q_57], by simp [restrict_env, h_13, q_52, q_53, q_54, q_55, q_56, q_57], by simp [restrict_env, h_13, q_52, q_53, q_54, q_55, q_56, q_57], by simp [restrict_env, h_13, q_52, q_53, q_54, q_55, q_56, q_57], by simp [restrict_env, h_13, q_52, q_53, q_54, q_55, q_56, q_57], by simp [restrict_mem, h_13, q_52, q_53, q_54, q_55, q_56, q_57], NoBox.restrict (by intro k hk hb; simp at hk hb; simp [hk, hb, h_13, q_52, q_53, q_54, q_55, q_56, q_57, hn_58 k (by simp [hk, hb])])⟩
    · try simp at h_13
      cases hp
      try simp [q_6, q_7, q_8, q_9, q_10, q_11, h_13]
      refine goal_outX ?_
      rw [X_4_]
      exact ⟨_, rfl, by simp [restrict_env, q_6, q_7, q_8, q_9, q_10, q_11, h_13], by simp [restrict_mem, q_6, q_7, q_8, q_9, q_10, q_11, h_13], NoBox.restrict (by intro k hk hb; simp at hk hb; simp [hk, hb, q_6, q_7, q_8, q_9, q_10, q_11, h_13, hn_12 k (by simp [hk, hb])])⟩
  · intro out hX
    rw [X_4_] at hX
    obtain ⟨σ_61, rfl, q_62, q_63, hn_64⟩ := hX
    cases hp
    simp [Goal, FnEnd, q_62, q_63]
theorem pc109 : PC Try.prog 109 C109 := pc_of (g := g109) (ctxOK_of [(155, C155), (156, C156)] rfl ⟨pc155, pc156, trivial⟩) ⟨Try.f109, Try.func109, by kernel_rfl, by kernel_rfl⟩ fun x y h => w109 h

noncomputable def C51 : List AV → Option AV := specP (X := Int × THeap × Unit) fun x => impl_IsHeap x.1 x.2.1
theorem C51_eq {vars h_} {y} (h : impl_IsHeap vars h_ = some y) : C51 [av .shr vars, av .shr h_] = some (Res.res y) := specP_eq (X := Int × THeap × Unit) (F := fun x => impl_IsHeap x.1 x.2.1) (x := (vars, h_, ())) h
noncomputable def g51 : Cfg := { P := Try.prog, take := [], keep := [((51, 5), { hd := [3, 5, 35, 36, 37], bx := [], ex := [3, 5], rt := [4] })], gho := [], ctx := [(49, C49), (107, C107), (108, C108), (109, C109)] }
@[simp] theorem g51_P : g51.P = Try.prog := rfl
@[simp] theorem g51_t : g51.take = [] := rfl
@[simp] theorem g51_g : g51.gho = [] := rfl
@[simp] theorem g51_49 : lookN 49 g51.ctx = some C49 := rfl
@[simp] theorem g51_107 : lookN 107 g51.ctx = some C107 := rfl
@[simp] theorem g51_108 : lookN 108 g51.ctx = some C108 := rfl
@[simp] theorem g51_109 : lookN 109 g51.ctx = some C109 := rfl
set_option maxHeartbeats 4000000 in
set_option maxRecDepth 100000 in
theorem w51 {vars h_} {y} (hp : impl_IsHeap vars h_ = some y) : ∃ m, callo g51 0 51 [av .shr vars, av .shr h_] mem0 = some (Res.res y, m) := by
  refine start_fn (Try.f51.body.getD .skip) [.tmp 4] rfl rfl Try.func51 (by kernel_rfl) (by kernel_rfl) (by simp [Try.ntmps51]) rfl ?_
  unfold impl_IsHeap at hp
  obtain ⟨y_1, h_2, hp⟩ := bind_some hp
  have c_3 := C49_eq h_2
  simp at c_3
  simp [Try.f51, c_3]
  rcases cond_cases hp with ⟨h_4, hp⟩ | ⟨h_4, hp⟩
  · try simp at h_4
    try simp [h_4]
    rcases cond_cases hp with ⟨h_5, hp⟩ | ⟨h_5, hp⟩
    · try simp at h_5
      cases hp
      simp [Goal, FnEnd, h_4, h_5]
    · try simp at h_5
      try simp [h_4, h_5]
      rcases cond_cases hp with ⟨h_6, hp⟩ | ⟨h_6, hp⟩
      · try simp at h_6
        cases hp
        simp [Goal, FnEnd, h_4, h_5, h_6]
      · try simp at h_6
        obtain ⟨y_7, h_8, hp⟩ := bind_some hp
        have c_9 := C107_eq h_8
        simp at c_9
        try simp [h_4, h_5, h_6, c_9]
        rcases cond_cases hp with ⟨h_10, hp⟩ | ⟨h_10, hp⟩
        · try simp at h_10
          obtain ⟨y_11, h_12, hp⟩ := bind_some hp
          have c_13 := C108_eq h_12
          simp at c_13
          try simp [h_4, h_5, h_6, h_10, c_13]
          rcases cond_cases hp with ⟨h_14, hp⟩ | ⟨h_14, hp⟩
          · try simp at h_14
            cases hp
            simp [Goal, FnEnd, h_4, h_5, h_6, h_10, h_14]
          · try simp at h_14
            obtain ⟨y_15, h_16, hp⟩ := bind_some hp
            have c_17 := C109_eq h_16
            simp at c_17
            try simp [h_4, h_5, h_6, h_10, h_14, c_17]
            obtain ⟨r_37, h_38, hp⟩ := bind_some hp
            obtain ⟨I_20, I_20_⟩ : ∃ I : Int → St → Prop, I = (fun (s_18 : Int) (σ : St) => σ.env 3 = .one (.ptr (1, 3) 0) ∧ σ.env 5 = .one (.l .own y_15.length (encL y_15)) ∧ σ.env 35 = .one (.l .bor y_15.length (encL y_15)) ∧ σ.env 36 = .one (.s (.int .i64 (y_15.length : Int))) ∧ σ.env 37 = .one (.s (.int .i64 s_18)) ∧ σ.mem (1, 3) = some [(.l .shr h_.vars.length (encL h_.vars)), (.l .shr h_.next.length (encL h_.next))] ∧ NoBox [(1, 3)] σ.mem) := ⟨_, rfl⟩
            obtain ⟨X_21, X_21_⟩ : ∃ X : ((Unit) ⊕ (Unit)) → Out → Prop, X = (fun (r_37 : (Unit) ⊕ (Unit)) (out : Out) => Sum.elim (fun r_37 => ∃ σ : St, out = .ret σ ∧ σ.env 4 = .one (.s (.bool false)) ∧ σ.mem (1, 3) = some [(.l .shr h_.vars.length (encL h_.vars)), (.l .shr h_.next.length (encL h_.next))] ∧ NoBox [(1, 3)] σ.mem) (fun r_37 => ∃ σ : St, out = .exit 0 σ ∧ σ.env 3 = .one (.ptr (1, 3) 0) ∧ σ.env 5 = .one (.l .own y_15.length (encL y_15)) ∧ σ.mem (1, 3) = some [(.l .shr h_.vars.length (encL h_.vars)), (.l .shr h_.next.length (encL h_.next))] ∧ NoBox [(1, 3)] σ.mem) r_37) := ⟨_, rfl⟩
            refine loopP ({ hd := [3, 5, 35, 36, 37], bx := [], ex := [3, 5], rt := [4] }) I_20 X_21 h_38 (by exact rfl) ?_ ?_ ?_
            · rw [I_20_]
              exact ⟨by simp [restrict_env, h_4, h_5, h_6, h_10, h_14], by simp [restrict_env, h_4, h_5, h_6, h_10, h_14], by simp [restrict_env, h_4, h_5, h_6, h_10, h_14], by simp [restrict_env, h_4, h_5, h_6, h_10, h_14], by simp [restrict_env, h_4, h_5, h_6, h_10, h_14], by simp [restrict_mem, h_4, h_5, h_6, h_10, h_14], NoBox.restrict (by intro k hk hb; simp at hk hb; simp [hk, hb, h_4, h_5, h_6, h_10, h_14])⟩
            · intro s_18 σ_22 a_19 hI hp
              rw [I_20_] at hI
              obtain ⟨q_23, q_24, q_25, q_26, q_27, q_28, hn_29⟩ := hI
              try simp [h_4, h_5, h_6, h_10, h_14, q_23, q_24, q_25, q_26, q_27, q_28]
              rcases cond_cases hp with ⟨h_30, hp⟩ | ⟨h_30, hp⟩
              · try simp at h_30
                obtain ⟨e_31, h_32, hp⟩ := bind_some hp
                have b_33 := at_lo h_32
                have b_34 := at_hi h_32
                try simp at b_33
                try simp at b_34
                have c_35 := seg_at' h_32 0 1 (by decide) (ds := [.sc (.int .i64 e_31)]) rfl
                try simp at c_35
                try simp [h_4, h_5, h_6, h_10, h_14, q_23, q_24, q_25, q_26, q_27, q_28, h_30, b_33, b_34, c_35]
                rcases cond_cases hp with ⟨h_36, hp⟩ | ⟨h_36, hp⟩
                · try simp at h_36
                  cases hp
                  try simp [h_4, h_5, h_6, h_10, h_14, q_23, q_24, q_25, q_26, q_27, q_28, h_30, h_36]
                  refine goal_outR ?_
                  rw [X_21_]
                  exact ⟨_, rfl, by simp [restrict_env, h_4, h_5, h_6, h_10, h_14, q_23, q_24, q_25, q_26, q_27, q_28, h_30, h_36], by simp [restrict_mem, h_4, h_5, h_6, h_10, h_14, q_23, q_24, q_25, q_26, q_27, q_28, h_30, h_36], NoBox.restrict (by intro k hk hb; simp at hk hb; simp [hk, hb, h_4, h_5, h_6, h_10, h_14, q_23, q_24, q_25, q_26, q_27, q_28, h_30, h_36, hn_29 k (by simp [hk, hb])])⟩
                · try simp at h_36
                  cases hp
                  try simp [h_4, h_5, h_6, h_10, h_14, q_23, q_24, q_25, q_26, q_27, q_28, h_30, h_36]
                  refine goal_next ?_
                  rw [I_20_]
                  exact ⟨by simp [restrict_env, h_4, h_5, h_6, h_10, h_14, q_23, q_24, q_25, q_26, q_27, q_28, h_30, h_36], by simp [restrict_env, h_4, h_5, h_6, h_10, h_14, q_23, q_24, q_25, q_26, q_27, q_28, h_30, h_36], by simp [restrict_env, h_4, h_5, h_6, h_10, h_14, q_23, q_24, q_25, q_26, q_27, q_28, h_30, h_36], by simp [restrict_env, h_4, h_5, h_6, h_10, h_14, q_23, q_24, q_25, q_26, q_27, q_28, h_30, h_36], by simp [restrict_env, h_4, h_5, h_6, h_10, h_14, q_23, q_24, q_25, q_26, q_27, q_28, h_30, h_36], by simp [restrict_mem, h_4, h_5, h_6, h_10, h_14, q_23, q_24, q_25, q_26, q_27, q_28, h_30, h_36], NoBox.restrict (by intro k hk hb; simp at hk hb; simp [hk, hb, h_4, h_5, h_6, h_10, h_14, q_23, q_24, q_25, q_26, q_27, q_28, h_30, h_36, hn_29 k (by simp [hk, hb])])⟩
              · try simp at h_30
                cases hp
                try simp [h_4, h_5, h_6, h_10, h_14, q_23, q_24, q_25, q_26, q_27, q_28, h_30]
                refine goal_outX ?_
                rw [X_21_]
                exact ⟨_, rfl, by simp [restrict_env, h_4, h_5, h_6, h_10, h_14, q_23, q_24, q_25, q_26, q_27, q_28, h_30], by simp [restrict_env, h_4, h_5, h_6, h_10, h_14, q_23, q_24, q_25, q_26, q_27, q_28, h_30], by simp [restrict_mem, h_4, h_5, h_6, h_10, h_14, q_23, q_24, q_25, q_26, q_27, q_28, h_30], NoBox.restrict (by intro k hk hb; simp at hk hb; simp [hk, hb, h_4, h_5, h_6, h_10, h_14, q_23, q_24, q_25, q_26, q_27, q_28, h_30, hn_29 k (by simp [hk, hb])])⟩
            · intro out hX
              rw [X_21_] at hX
              rcases r_37 with r_37 | r_37
              · simp only [Sum.elim_inl, Sum.elim_inr] at hX hp
                obtain ⟨σ_39, rfl, q_40, q_41, hn_42⟩ := hX
                cases hp
                simp [Goal, FnEnd, h_4, h_5, h_6, h_10, h_14, q_40, q_41]
              · simp only [Sum.elim_inl, Sum.elim_inr] at hX hp
                obtain ⟨σ_43, rfl, q_44, q_45, q_46, hn_47⟩ := hX
                cases hp
                simp [Goal, FnEnd, h_4, h_5, h_6, h_10, h_14, q_44, q_45, q_46]
        · try simp at h_10
          cases hp
          simp [Goal, FnEnd, h_4, h_5, h_6, h_10]
  · try simp at h_4
    cases hp
    simp [Goal, FnEnd, h_4]
theorem pc51 : PC Try.prog 51 C51 := pc_of (g := g51) (ctxOK_of [(49, C49), (107, C107), (108, C108), (109, C109)] rfl ⟨pc49, pc107, pc108, pc109, trivial⟩) ⟨Try.f51, Try.func51, by kernel_rfl, by kernel_rfl⟩ fun x y h => w51 h

noncomputable def C52 : List AV → Option AV := specP (X := THeap × Unit) fun x => impl_Heap_own x.1
theorem C52_eq {h_} {y} (h : impl_Heap_own h_ = some y) : C52 [av .shr h_] = some (Res.res y) := specP_eq (X := THeap × Unit) (F := fun x => impl_Heap_own x.1) (x := (h_, ())) h
noncomputable def g52 : Cfg := { P := Try.prog, take := [], keep := [], gho := [], ctx := [(106, C106)] }
@[simp] theorem g52_P : g52.P = Try.prog := rfl
@[simp] theorem g52_t : g52.take = [] := rfl
@[simp] theorem g52_g : g52.gho = [] := rfl
@[simp] theorem g52_106 : lookN 106 g52.ctx = some C106 := rfl
set_option maxHeartbeats 4000000 in
set_option maxRecDepth 100000 in
theorem w52 {h_} {y} (hp : impl_Heap_own h_ = some y) : ∃ m, callo g52 0 52 [av .shr h_] mem0 = some (Res.res y, m) := by
  refine start_fn (Try.f52.body.getD .skip) [.cell 2 72] rfl rfl Try.func52 (by kernel_rfl) (by kernel_rfl) (by simp [Try.ntmps52]) rfl ?_
  unfold impl_Heap_own at hp
  obtain ⟨y_1, h_2, hp⟩ := bind_some hp
  have c_3 := C106_eq h_2
  simp at c_3
  obtain ⟨y_4, h_5, hp⟩ := bind_some hp
  have c_6 := C106_eq h_5
  simp at c_6
  cases hp
  simp [Try.f52, Goal, FnEnd, retR, rsrc, RSrc.val, nodupR, nodup, tupPart, c_3, c_6]
theorem pc52 : PC Try.prog 52 C52 := pc_of (g := g52) (ctxOK_of [(106, C106)] rfl ⟨pc106, trivial⟩) ⟨Try.f52, Try.func52, by kernel_rfl, by kernel_rfl⟩ fun x y h => w52 h

noncomputable def C10 : List AV → Option AV := specP (X := Int × Int × Unit) fun x => impl_SmallHeaps x.1 x.2.1
theorem C10_eq {vars cells} {y} (h : impl_SmallHeaps vars cells = some y) : C10 [av .shr vars, av .shr cells] = some (Res.res y) := specP_eq (X := Int × Int × Unit) (F := fun x => impl_SmallHeaps x.1 x.2.1) (x := (vars, cells, ())) h
noncomputable def g10 : Cfg := { P := Try.prog, take := [(10, 48), (10, 56)], keep := [((10, 5), { hd := [0, 5, 22, 23], bx := [11], ex := [5], rt := [4] }), ((10, 8), { hd := [0, 5, 6, 22, 23, 28, 29, 30], bx := [11], ex := [0, 5, 22, 23], rt := [4] }), ((10, 11), { hd := [0, 5, 6, 8, 22, 23, 28, 29, 30, 36, 37, 38], bx := [11], ex := [0, 5, 6, 22, 23, 28, 29, 30], rt := [4] })], gho := [], ctx := [(49, C49), (50, C50), (51, C51), (52, C52)] }
@[simp] theorem g10_P : g10.P = Try.prog := rfl
@[simp] theorem g10_t : g10.take = [(10, 48), (10, 56)] := rfl
@[simp] theorem g10_g : g10.gho = [] := rfl
@[simp] theorem g10_49 : lookN 49 g10.ctx = some C49 := rfl
@[simp] theorem g10_50 : lookN 50 g10.ctx = some C50 := rfl
@[simp] theorem g10_51 : lookN 51 g10.ctx = some C51 := rfl
@[simp] theorem g10_52 : lookN 52 g10.ctx = some C52 := rfl
set_option maxHeartbeats 4000000 in
set_option maxRecDepth 100000 in
theorem w10 {vars cells} {y} (hp : impl_SmallHeaps vars cells = some y) : ∃ m, callo g10 0 10 [av .shr vars, av .shr cells] mem0 = some (Res.res y, m) := by
  refine start_fn (Try.f10.body.getD .skip) [.tmp 4] rfl rfl Try.func10 (by kernel_rfl) (by kernel_rfl) (by simp [Try.ntmps10]) rfl ?_
  unfold impl_SmallHeaps at hp
  obtain ⟨y_1, h_2, hp⟩ := bind_some hp
  have c_3 := C49_eq h_2
  simp at c_3
  simp [Try.f10, c_3]
  rcases cond_cases hp with ⟨h_4, hp⟩ | ⟨h_4, hp⟩
  · try simp at h_4
    obtain ⟨y_5, h_6, hp⟩ := bind_some hp
    have c_7 := C49_eq h_6
    simp at c_7
    try simp [h_4, c_7]
    rcases cond_cases hp with ⟨h_8, hp⟩ | ⟨h_8, hp⟩
    · try simp at h_8
      try simp [h_4, h_8]
      obtain ⟨r_100, h_101, hp⟩ := bind_some hp
      obtain ⟨I_11, I_11_⟩ : ∃ I : (List THeap) × Int → St → Prop, I = (fun (s_9 : (List THeap) × Int) (σ : St) => σ.env 0 = .one (.s (.int .i64 vars)) ∧ σ.env 5 = .one (.l .own s_9.1.length (encL s_9.1)) ∧ σ.env 22 = .one (.s (.int .i64 (addI cells 1))) ∧ σ.env 23 = .one (.s (.int .i64 s_9.2)) ∧ NoBox [] σ.mem) := ⟨_, rfl⟩
      obtain ⟨X_12, X_12_⟩ : ∃ X : (List THeap) → Out → Prop, X = (fun (r_100 : (List THeap)) (out : Out) => ∃ σ : St, out = .exit 0 σ ∧ σ.env 5 = .one (.l .own r_100.length (encL r_100)) ∧ NoBox [] σ.mem) := ⟨_, rfl⟩
      refine loopP ({ hd := [0, 5, 22, 23], bx := [11], ex := [5], rt := [4] }) I_11 X_12 h_101 (by exact rfl) ?_ ?_ ?_
      · rw [I_11_]
        exact ⟨by simp [restrict_env, h_4, h_8], by simp [restrict_env, h_4, h_8], by simp [restrict_env, h_4, h_8], by simp [restrict_env, h_4, h_8], NoBox.restrict (by intro k hk hb; simp at hk hb; simp [hk, hb, h_4, h_8])⟩
      · intro s_9 σ_13 a_10 hI hp
        rw [I_11_] at hI
        obtain ⟨q_14, q_15, q_16, q_17, hn_18⟩ := hI
        try simp [h_4, h_8, q_14, q_15, q_16, q_17]
        rcases cond_cases hp with ⟨h_19, hp⟩ | ⟨h_19, hp⟩
        · try simp at h_19
          obtain ⟨y_20, h_21, hp⟩ := bind_some hp
          have c_22 := C50_eq h_21
          simp at c_22
          try simp [h_4, h_8, q_14, q_15, q_16, q_17, h_19, c_22]
          obtain ⟨r_92, h_93, hp⟩ := bind_some hp
          obtain ⟨I_25, I_25_⟩ : ∃ I : (List THeap) × Int → St → Prop, I = (fun (s_23 : (List THeap) × Int) (σ : St) => σ.env 0 = .one (.s (.int .i64 vars)) ∧ σ.env 5 = .one (.l .own s_23.1.length (encL s_23.1)) ∧ σ.env 6 = .one (.s (.int .i64 s_9.2)) ∧ σ.env 22 = .one (.s (.int .i64 (addI cells 1))) ∧ σ.env 23 = .one (.s (.int .i64 s_9.2)) ∧ σ.env 28 = .one (.l .own y_20.length (encL y_20)) ∧ σ.env 29 = .one (.s (.int .i64 (y_20.length : Int))) ∧ σ.env 30 = .one (.s (.int .i64 s_23.2)) ∧ NoBox [] σ.mem) := ⟨_, rfl⟩
          obtain ⟨X_26, X_26_⟩ : ∃ X : (List THeap) → Out → Prop, X = (fun (r_92 : (List THeap)) (out : Out) => ∃ σ : St, out = .exit 2 σ ∧ σ.env 0 = .one (.s (.int .i64 vars)) ∧ σ.env 5 = .one (.l .own r_92.length (encL r_92)) ∧ σ.env 22 = .one (.s (.int .i64 (addI cells 1))) ∧ σ.env 23 = .one (.s (.int .i64 s_9.2)) ∧ NoBox [] σ.mem) := ⟨_, rfl⟩
          refine loopP ({ hd := [0, 5, 6, 22, 23, 28, 29, 30], bx := [11], ex := [0, 5, 22, 23], rt := [4] }) I_25 X_26 h_93 (by exact rfl) ?_ ?_ ?_
          · rw [I_25_]
            exact ⟨by simp [restrict_env, h_4, h_8, q_14, q_15, q_16, q_17, h_19], by simp [restrict_env, h_4, h_8, q_14, q_15, q_16, q_17, h_19], by simp [restrict_env, h_4, h_8, q_14, q_15, q_16, q_17, h_19], by simp [restrict_env, h_4, h_8, q_14, q_15, q_16, q_17, h_19], by simp [restrict_env, h_4, h_8, q_14, q_15, q_16, q_17, h_19], by simp [restrict_env, h_4, h_8, q_14, q_15, q_16, q_17, h_19], by simp [restrict_env, h_4, h_8, q_14, q_15, q_16, q_17, h_19], by simp [restrict_env, h_4, h_8, q_14, q_15, q_16, q_17, h_19], NoBox.restrict (by intro k hk hb; simp at hk hb; simp [hk, hb, h_4, h_8, q_14, q_15, q_16, q_17, h_19, hn_18 k (by simp [hk, hb])])⟩
          · intro s_23 σ_27 a_24 hI hp
            rw [I_25_] at hI
            obtain ⟨q_28, q_29, q_30, q_31, q_32, q_33, q_34, q_35, hn_36⟩ := hI
            try simp [h_4, h_8, h_19, q_28, q_29, q_30, q_31, q_32, q_33, q_34, q_35]
            rcases cond_cases hp with ⟨h_37, hp⟩ | ⟨h_37, hp⟩
            · try simp at h_37
              obtain ⟨e_38, h_39, hp⟩ := bind_some hp
              have b_40 := at_lo h_39
              have b_41 := at_hi h_39
              try simp at b_40
              try simp at b_41
              have c_42 := seg_at' h_39 0 1 (by decide) (ds := [.sl e_38.length (encL e_38)]) rfl
              try simp at c_42
              obtain ⟨y_43, h_44, hp⟩ := bind_some hp
              have c_45 := C50_eq h_44
              simp at c_45
              try simp [h_4, h_8, h_19, q_28, q_29, q_30, q_31, q_32, q_33, q_34, q_35, h_37, b_40, b_41, c_42, c_45]
              obtain ⟨r_80, h_81, hp⟩ := bind_some hp
              obtain ⟨I_48, I_48_⟩ : ∃ I : (List THeap) × Int → St → Prop, I = (fun (s_46 : (List THeap) × Int) (σ : St) => σ.env 0 = .one (.s (.int .i64 vars)) ∧ σ.env 5 = .one (.l .own s_46.1.length (encL s_46.1)) ∧ σ.env 6 = .one (.s (.int .i64 s_9.2)) ∧ σ.env 8 = .one (.l .bor e_38.length (encL e_38)) ∧ σ.env 22 = .one (.s (.int .i64 (addI cells 1))) ∧ σ.env 23 = .one (.s (.int .i64 s_9.2)) ∧ σ.env 28 = .one (.l .own y_20.length (encL y_20)) ∧ σ.env 29 = .one (.s (.int .i64 (y_20.length : Int))) ∧ σ.env 30 = .one (.s (.int .i64 s_23.2)) ∧ σ.env 36 = .one (.l .own y_43.length (encL y_43)) ∧ σ.env 37 = .one (.s (.int .i64 (y_43.length : Int))) ∧ σ.env 38 = .one (.s (.int .i64 s_46.2)) ∧ NoBox [] σ.mem) := ⟨_, rfl⟩
              obtain ⟨X_49, X_49_⟩ : ∃ X : (List THeap) → Out → Prop, X = (fun (r_80 : (List THeap)) (out : Out) => ∃ σ : St, out = .exit 4 σ ∧ σ.env 0 = .one (.s (.int .i64 vars)) ∧ σ.env 5 = .one (.l .own r_80.length (encL r_80)) ∧ σ.env 6 = .one (.s (.int .i64 s_9.2)) ∧ σ.env 22 = .one (.s (.int .i64 (addI cells 1))) ∧ σ.env 23 = .one (.s (.int .i64 s_9.2)) ∧ σ.env 28 = .one (.l .own y_20.length (encL y_20)) ∧ σ.env 29 = .one (.s (.int .i64 (y_20.length : Int))) ∧ σ.env 30 = .one (.s (.int .i64 s_23.2)) ∧ NoBox [] σ.mem) := ⟨_, rfl⟩
              refine loopP ({ hd := [0, 5, 6, 8, 22, 23, 28, 29, 30, 36, 37, 38], bx := [11], ex := [0, 5, 6, 22, 23, 28, 29, 30], rt := [4] }) I_48 X_49 h_81 (by exact rfl) ?_ ?_ ?_
              · rw [I_48_]
                exact ⟨by simp [restrict_env, h_4, h_8, h_19, q_28, q_29, q_30, q_31, q_32, q_33, q_34, q_35, h_37], by simp [restrict_env, h_4, h_8, h_19, q_28, q_29, q_30, q_31, q_32, q_33, q_34, q_35, h_37], by simp [restrict_env, h_4, h_8, h_19, q_28, q_29, q_30, q_31, q_32, q_33, q_34, q_35, h_37], by simp [restrict_env, h_4, h_8, h_19, q_28, q_29, q_30, q_31, q_32, q_33, q_34, q_35, h_37], by simp [restrict_env, h_4, h_8, h_19, q_28, q_29, q_30, q_31, q_32, q_33, q_34, q_35, h_37], by simp [restrict_env, h_4, h_8, h_19, q_28, q_29, q_30, q_31, q_32, q_33, q_34, q_35, h_37], by simp [restrict_env, h_4, h_8, h_19, q_28, q_29, q_30, q_31, q_32, q_33, q_34, q_35, h_37], by simp [restrict_env, h_4, h_8, h_19, q_28, q_29, q_30, q_31, q_32, q_33, q_34, q_35, h_37], by simp [restrict_env, h_4, h_8, h_19, q_28, q_29, q_30, q_31, q_32, q_33, q_34, q_35, h_37], by simp [restrict_env, h_4, h_8, h_19, q_28, q_29, q_30, q_31, q_32, q_33, q_34, q_35, h_37], by simp [restrict_env, h_4, h_8, h_19, q_28, q_29, q_30, q_31, q_32, q_33, q_34, q_35, h_37], by simp [restrict_env, h_4, h_8, h_19, q_28, q_29, q_30, q_31, q_32, q_33, q_34, q_35, h_37], NoBox.restrict (by intro k hk hb; simp at hk hb; simp [hk, hb, h_4, h_8, h_19, q_28, q_29, q_30, q_31, q_32, q_33, q_34, q_35, h_37, hn_36 k (by simp [hk, hb])])⟩
              · intro s_46 σ_50 a_47 hI hp
                rw [I_48_] at hI
                obtain ⟨q_51, q_52, q_53, q_54, q_55, q_56, q_57, q_58, q_59, q_60, q_61, q_62, hn_63⟩ := hI
                try simp [h_4, h_8, h_19, h_37, q_51, q_52, q_53, q_54, q_55, q_56, q_57, q_58, q_59, q_60, q_61, q_62]
                rcases cond_cases hp with ⟨h_64, hp⟩ | ⟨h_64, hp⟩
                · try simp at h_64
                  obtain ⟨e_65, h_66, hp⟩ := bind_some hp
                  have b_67 := at_lo h_66
                  have b_68 := at_hi h_66
                  try simp at b_67
                  try simp at b_68
                  have c_69 := seg_at' h_66 0 1 (by decide) (ds := [.sl e_65.length (encL e_65)]) rfl
                  try simp at c_69
                  have n_70 := hn_63 (1, 11) (by simp)
                  obtain ⟨y_71, h_72, hp⟩ := bind_some hp
                  have c_73 := C51_eq h_72
                  simp at c_73
                  try simp [h_4, h_8, h_19, h_37, q_51, q_52, q_53, q_54, q_55, q_56, q_57, q_58, q_59, q_60, q_61, q_62, h_64, b_67, b_68, c_69, n_70, c_73]
                  rcases cond_cases hp with ⟨h_74, hp⟩ | ⟨h_74, hp⟩
                  · try simp at h_74
                    obtain ⟨y_75, h_76, hp⟩ := bind_some hp
                    have c_77 := C52_eq h_76
                    simp at c_77
                    obtain ⟨_, h_78, hp⟩ := bind_some hp
                    have b_79 := room_ok h_78
                    try simp at b_79
                    cases hp
                    try simp [h_4, h_8, h_19, h_37, q_51, q_52, q_53, q_54, q_55, q_56, q_57, q_58, q_59, q_60, q_61, q_62, h_64, h_74, c_77, b_79]
                    refine goal_next ?_
                    rw [I_48_]
                    exact ⟨by simp [restrict_env, h_4, h_8, h_19, h_37, q_51, q_52, q_53, q_54, q_55, q_56, q_57, q_58, q_59, q_60, q_61, q_62, h_64, h_74, c_77, b_79], by simp [restrict_env, h_4, h_8, h_19, h_37, q_51, q_52, q_53, q_54, q_55, q_56, q_57, q_58, q_59, q_60, q_61, q_62, h_64, h_74, c_77, b_79], by simp [restrict_env, h_4, h_8, h_19, h_37, q_51, q_52, q_53, q_54, q_55, q_56, q_57, q_58, q_59, q_60, q_61, q_62, h_64, h_74, c_77, b_79], by simp [restrict_env, h_4, h_8, h_19, h_37, q_51, q_52, q_53, q_54, q_55, q_56, q_57, q_58, q_59, q_60, q_61, q_62, h_64, h_74, c_77, b_79], by simp [restrict_env, h_4, h_8, h_19, h_37, q_51, q_52, q_53, q_54, q_55, q_56, q_57, q_58, q_59, q_60, q_61, q_62, h_64, h_74, c_77, b_79], by simp [restrict_env, h_4, h_8, h_19, h_37, q_51, q_52, q_53, q_54, q_55, q_56, q_57, q_58, q_59, q_60, q_61, q_62, h_64, h_74, c_77, b_79], by simp [restrict_env, h_4, h_8, h_19, h_37, q_51, q_52, q_53, q_54, q_55, q_56, q_57, q_58, q_59, q_60, q_61, q_62, h_64, h_74, c_77, b_79], by simp [restrict_env, h_4, h_8, h_19, h_37, q_51, q_52, q_53, q_54, q_55, q_56, q_57, q_58, q_59, q_60, q_61, q_62, h_64, h_74, c_77, b_79], by simp [restrict_env, h_4, h_8, h_19, h_37, q_51, q_52, q_53, q_54, q_55, q_56, q_57, q_58, q_59, q_60, q_61, q_62, h_64, h_74, c_77, b_79], by simp [restrict_env, h_4, h_8, h_19, h_37, q_51, q_52, q_53, q_54, q_55, q_56, q_57, q_58, q_59, q_60, q_61, q_62, h_64, h_74, c_77, b_79], by simp [restrict_env, h_4, h_8, h_19, h_37, q_51, q_52, q_53, q_54, q_55, q_56, q_57, q_58, q_59, q_60, q_61, q_62, h_64, h_74, c_77, b_79], by simp [restrict_env, h_4, h_8, h_19, h_37, q_51, q_52, q_53, q_54, q_55, q_56, q_57, q_58, q_59, q_60, q_61, q_62, h_64, h_74, c_77, b_79], NoBox.restrict (by intro k hk hb; simp at hk hb; simp [hk, hb, h_4, h_8, h_19, h_37, q_51, q_52, q_53, q_54, q_55, q_56, q_57, q_58, q_59, q_60, q_61, q_62, h_64, h_74, c_77, b_79, hn_63 k (by simp [hk, hb])])⟩
                  · try simp at h_74
                    cases hp
                    try simp [h_4, h_8, h_19, h_37, q_51, q_52, q_53, q_54, q_55, q_56, q_57, q_58, q_59, q_60, q_61, q_62, h_64, h_74]
                    refine goal_next ?_
                    rw [I_48_]
                    exact ⟨by simp [restrict_env, h_4, h_8, h_19, h_37, q_51, q_52, q_53, q_54, q_55, q_56, q_57, q_58, q_59, q_60, q_61, q_62, h_64, h_74], by simp [restrict_env, h_4, h_8, h_19, h_37, q_51, q_52, q_53, q_54, q_55, q_56, q_57, q_58, q_59, q_60, q_61, q_62, h_64, h_74], by simp [restrict_env, h_4, h_8, h_19, h_37, q_51, q_52, q_53, q_54, q_55, q_56, q_57, q_58, q_59, q_60, q_61, q_62, h_64, h_74], by simp [restrict_env, h_4, h_8, h_19, h_37, q_51, q_52, q_53, q_54, q_55, q_56, q_57, q_58, q_59, q_60, q_61, q_62, h_64, h_74], by simp [restrict_env, h_4, h_8, h_19, h_37, q_51, q_52, q_53, q_54, q_55, q_56, q_57, q_58, q_59, q_60, q_61, q_62, h_64, h_74], by simp [restrict_env, h_4, h_8, h_19, h_37, q_51, q_52, q_53, q_54, q_55, q_56, q_57, q_58, q_59, q_60, q_61, q_62, h_64, h_74], by simp [restrict_env, h_4, h_8, h_19, h_37, q_51, q_52, q_53, q_54, q_55, q_56, q_57, q_58, q_59, q_60, q_61, q_62, h_64, h_74], by simp [restrict_env, h_4, h_8, h_19, h_37, q_51, q_52, q_53, q_54, q_55, q_56, q_57, q_58, q_59, q_60, q_61, q_62, h_64, h_74], by simp [restrict_env, h_4, h_8, h_19, h_37, q_51, q_52, q_53, q_54, q_55, q_56, q_57, q_58, q_59, q_60, q_61, q_62, h_64, h_74], by simp [restrict_env, h_4, h_8, h_19, h_37, q_51, q_52, q_53, q_54, q_55, q_56, q_57, q_58, q_59, q_60, q_61, q_62, h_64, h_74], by simp [restrict_env, h_4, h_8, h_19, h_37, q_51, q_52, q_53, q_54, q_55, q_56, q_57, q_58, q_59, q_60, q_61, q_62, h_64, h_74], by simp [restrict_env, h_4, h_8, h_19, h_37, q_51, q_52, q_53, q_54, q_55, q_56, q_57, q_58, q_59, q_60, q_61, q_62, h_64, h_74], NoBox.restrict (by intro k hk hb; simp at hk hb; simp [hk, hb, h_4, h_8, h_19, h_37, q_51, q_52, q_53, q_54, q_55, q_56, q_57, q_58, q_59, q_60, q_61, q_62, h_64, h_74, hn_63 k (by simp [hk, hb])])⟩
                · try simp at h_64
                  cases hp
                  try simp [h_4, h_8, h_19, h_37, q_51, q_52, q_53, q_54, q_55, q_56, q_57, q_58, q_59, q_60, q_61, q_62, h_64]
                  refine goal_outX ?_
                  rw [X_49_]
                  exact ⟨_, rfl, by simp [restrict_env, h_4, h_8, h_19, h_37, q_51, q_52, q_53, q_54, q_55, q_56, q_57, q_58, q_59, q_60, q_61, q_62, h_64], by simp [restrict_env, h_4, h_8, h_19, h_37, q_51, q_52, q_53, q_54, q_55, q_56, q_57, q_58, q_59, q_60, q_61, q_62, h_64], by simp [restrict_env, h_4, h_8, h_19, h_37, q_51, q_52, q_53, q_54, q_55, q_56, q_57, q_58, q_59, q_60, q_61, q_62, h_64], by simp [restrict_env, h_4, h_8, h_19, h_37, q_51, q_52, q_53, q_54, q_55, q_56, q_57, q_58, q_59, q_60, q_61, q_62, h_64], by simp [restrict_env, h_4, h_8, h_19, h_37, q_51, q_52, q_53, q_54, q_55, q_56, q_57, q_58, q_59, q_60, q_61, q_62, h_64], by simp [restrict_env, h_4, h_8, h_19, h_37, q_51, q_52, q_53, q_54, q_55, q_56, q_57, q_58, q_59, q_60, q_61, q_62, h_64], by simp [restrict_env, h_4, h_8, h_19, h_37, q_51, q_52, q_53, q_54, q_55, q_56, q_57, q_58, q_59, q_60, q_61, q_62, h_64], by simp [restrict_env, h_4, h_8, h_19, h_37, q_51, q_52, q_53, q_54, q_55, q_56, q_57, q_58, q_59, q_60, q_61, q_62, h_64], NoBox.restrict (by intro k hk hb; simp at hk hb; simp [hk, hb, h_4, h_8, h_19, h_37, q_51, q_52, q_53, q_54, q_55, q_56, q_57, q_58, q_59, q_60, q_61, q_62, h_64, hn_63 k (by simp [hk, hb])])⟩
              · intro out hX
                rw [X_49_] at hX
                obtain ⟨σ_82, rfl, q_83, q_84, q_85, q_86, q_87, q_88, q_89, q_90, hn_91⟩ := hX
                cases hp
                try simp [h_4, h_8, h_19, h_37, q_83, q_84, q_85, q_86, q_87, q_88, q_89, q_90]
                refine goal_next ?_
                rw [I_25_]
                exact ⟨by simp [restrict_env, h_4, h_8, h_19, h_37, q_83, q_84, q_85, q_86, q_87, q_88, q_89, q_90], by simp [restrict_env, h_4, h_8, h_19, h_37, q_83, q_84, q_85, q_86, q_87, q_88, q_89, q_90], by simp [restrict_env, h_4, h_8, h_19, h_37, q_83, q_84, q_85, q_86, q_87, q_88, q_89, q_90], by simp [restrict_env, h_4, h_8, h_19, h_37, q_83, q_84, q_85, q_86, q_87, q_88, q_89, q_90], by simp [restrict_env, h_4, h_8, h_19, h_37, q_83, q_84, q_85, q_86, q_87, q_88, q_89, q_90], by simp [restrict_env, h_4, h_8, h_19, h_37, q_83, q_84, q_85, q_86, q_87, q_88, q_89, q_90], by simp [restrict_env, h_4, h_8, h_19, h_37, q_83, q_84, q_85, q_86, q_87, q_88, q_89, q_90], by simp [restrict_env, h_4, h_8, h_19, h_37, q_83, q_84, q_85, q_86, q_87, q_88, q_89, q_90], NoBox.restrict (by intro k hk hb; simp at hk hb; simp [hk, hb, h_4, h_8, h_19, h_37, q_83, q_84, q_85, q_86, q_87, q_88, q_89, q_90, hn_91 k (by simp [hk, hb])])⟩
            · try simp at h_37
              cases hp
              try simp [h_4, h_8, h_19, q_28, q_29, q_30, q_31, q_32, q_33, q_34, q_35, h_37]
              refine goal_outX ?_
              rw [X_26_]
              exact ⟨_, rfl, by simp [restrict_env, h_4, h_8, h_19, q_28, q_29, q_30, q_31, q_32, q_33, q_34, q_35, h_37], by simp [restrict_env, h_4, h_8, h_19, q_28, q_29, q_30, q_31, q_32, q_33, q_34, q_35, h_37], by simp [restrict_env, h_4, h_8, h_19, q_28, q_29, q_30, q_31, q_32, q_33, q_34, q_35, h_37], by simp [restrict_env, h_4, h_8, h_19, q_28, q_29, q_30, q_31, q_32, q_33, q_34, q_35, h_37], NoBox.restrict (by intro k hk hb; simp at hk hb; simp [hk, hb, h_4, h_8, h_19, q_28, q_29, q_30, q_31, q_32, q_33, q_34, q_35, h_37, hn_36 k (by simp [hk, hb])])⟩
          · intro out hX
            rw [X_26_] at hX
            obtain ⟨σ_94, rfl, q_95, q_96, q_97, q_98, hn_99⟩ := hX
            cases hp
            try simp [h_4, h_8, h_19, q_95, q_96, q_97, q_98]
            refine goal_next ?_
            rw [I_11_]
            exact ⟨by simp [restrict_env, h_4, h_8, h_19, q_95, q_96, q_97, q_98], by simp [restrict_env, h_4, h_8, h_19, q_95, q_96, q_97, q_98], by simp [restrict_env, h_4, h_8, h_19, q_95, q_96, q_97, q_98], by simp [restrict_env, h_4, h_8, h_19, q_95, q_96, q_97, q_98], NoBox.restrict (by intro k hk hb; simp at hk hb; simp [hk, hb, h_4, h_8, h_19, q_95, q_96, q_97, q_98, hn_99 k (by simp [hk, hb])])⟩
        · try simp at h_19
          cases hp
          try simp [h_4, h_8, q_14, q_15, q_16, q_17, h_19]
          refine goal_outX ?_
          rw [X_12_]
          exact ⟨_, rfl, by simp [restrict_env, h_4, h_8, q_14, q_15, q_16, q_17, h_19], NoBox.restrict (by intro k hk hb; simp at hk hb; simp [hk, hb, h_4, h_8, q_14, q_15, q_16, q_17, h_19, hn_18 k (by simp [hk, hb])])⟩
      · intro out hX
        rw [X_12_] at hX
        obtain ⟨σ_102, rfl, q_103, hn_104⟩ := hX
        cases hp
        simp [Goal, FnEnd, h_4, h_8, q_103]
    · try simp at h_8
      cases hp
      simp [Goal, FnEnd, h_4, h_8]
  · try simp at h_4
    cases hp
    simp [Goal, FnEnd, h_4]
theorem pc10 : PC Try.prog 10 C10 := pc_of (g := g10) (ctxOK_of [(49, C49), (50, C50), (51, C51), (52, C52)] rfl ⟨pc49, pc50, pc51, pc52, trivial⟩) ⟨Try.f10, Try.func10, by kernel_rfl, by kernel_rfl⟩ fun x y h => w10 h
end Go.Proofs
