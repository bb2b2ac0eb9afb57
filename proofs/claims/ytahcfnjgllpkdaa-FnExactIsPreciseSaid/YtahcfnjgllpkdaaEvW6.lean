import Derived.Test.YtahcfnjgllpkdaaEvW5
set_option linter.unusedSimpArgs false
set_option linter.unusedVariables false
set_option linter.unnecessarySimpa false
namespace Go.Proofs
open Go.Ev
abbrev G139 (g : Cfg) : Prop := Has Try.prog g 139 Try.f139 [18, 22, 23, 27] [(3, { hd := [2, 7, 13, 14, 15], bx := [9], ex := [7], rt := [6] })] [(10, C10)] [(2000002, [.thaw (.sl 13 0) 13 2])]
set_option maxHeartbeats 4000000 in
set_option maxRecDepth 100000 in
theorem wI139 {g : Cfg} (G : G139 g) {d : Nat} {mem : Mem} (hT : Tight d mem) (hB : ∀ x, (mem x).map (List.map C.killB) = mem x)  {vars : Int} {cells : Int} {accept : (THeap → Option (Bool))} {fk_accept : Nat} {caps_accept : List (Key × Nat)} (hl_accept : ∀ c ∈ caps_accept, c.1.1 ≤ d) (hc_accept : Clo g d mem fk_accept caps_accept fun x : THeap × Unit => accept x.1) {y} (hp : impl_described vars cells accept = some y) : callo g d 139 [av .shr vars, av .shr cells, .one (.fn fk_accept caps_accept)] mem = some (Res.res y, mem) := by
  have gP := G.P; have gt := G.tk; have gg := G.gh
  have k_3 := G.kp (3, { hd := [2, 7, 13, 14, 15], bx := [9], ex := [7], rt := [6] }) (by simp)
  have c_10 := G.cs (10, C10) (by simp)
  have hT2 : memKill (fun k => decide (d < k.1)) mem = mem := hT
  have hm0 : ∀ t, mem (d + 1, t) = none := fun t => hT.none (by simp)
  refine start_in (Try.f139.body.getD .skip) [.tmp 6] G Try.func139 (by kernel_rfl) (by simp [Try.ntmps139]) rfl ?_
  unfold impl_described at hp
  obtain ⟨y_1, h_2, hp⟩ := bind_some hp
  have c_3 := C10_eq h_2
  simp at c_3
  simp [Try.f139, gP, gt, gg, hm0, c_10, hB, c_3]
  try simp [gP, gt, gg, hm0, c_10, hB]
  obtain ⟨r_33, h_34, hp⟩ := bind_some hp
  obtain ⟨I_6, I_6_⟩ : ∃ I : (List THeap) × Int × Int → St → Prop, I = (fun (s_4 : (List THeap) × Int × Int) (σ : St) => σ.env 2 = .one (.fn fk_accept caps_accept) ∧ σ.env 7 = .one (.l .own s_4.1.length (encL s_4.1)) ∧ σ.env 13 = .one (.bs (d + 1, 13) y_1.length 2) ∧ σ.env 14 = .one (.s (.int .i64 (y_1.length : Int))) ∧ σ.env 15 = .one (.s (.int .i64 s_4.2.1)) ∧ σ.mem (d + 1, 13) = some (deadC y_1 s_4.2.2) ∧ Tight (d + 1) σ.mem ∧ Agree d mem σ.mem ∧ NoBoxD d [(d + 1, 13)] σ.mem) := ⟨_, rfl⟩
  obtain ⟨X_7, X_7_⟩ : ∃ X : ((List THeap) × Int) → Out → Prop, X = (fun (r_33 : (List THeap) × Int) (out : Out) => ∃ σ : St, out = .exit 0 σ ∧ σ.env 7 = .one (.l .own r_33.1.length (encL r_33.1)) ∧ σ.mem (d + 1, 13) = some (deadC y_1 r_33.2) ∧ Tight (d + 1) σ.mem ∧ Agree d mem σ.mem ∧ NoBoxD d [(d + 1, 13)] σ.mem) := ⟨_, rfl⟩
  refine loopP ({ hd := [2, 7, 13, 14, 15], bx := [9], ex := [7], rt := [6] }) I_6 X_7 h_34 (by exact k_3) ?_ ?_ ?_
  · rw [I_6_]
    exact ⟨by simp [restrict_env, gP, gt, gg, hm0, c_10, hB] <;> first | (intro x x1 x2 hx; have h0 := hl_accept _ hx; simp at h0; omega) | (intro x hx; have h0 := hl_accept _ hx; simp at h0; omega), by simp [restrict_env, gP, gt, gg, hm0, c_10, hB], by simp [restrict_env, gP, gt, gg, hm0, c_10, hB], by simp [restrict_env, gP, gt, gg, hm0, c_10, hB], by simp [restrict_env, gP, gt, gg, hm0, c_10, hB], by simp [restrict_mem, gP, gt, gg, hm0, c_10, hB], (by repeat (first | exact tight_mem0 _ | exact hT.up | exact hT | refine Tight.restrict ?_ | refine Tight.upd ?_ (by simp) (by simp))), (by repeat (first | exact fun k hk => rfl | refine Agree.restrict hT ?_ | refine Agree.upd ?_ (by simp))), NoBoxD.restrict (by intro k hd hk hb; simp at hk hb; simp [hk, hb, gP, gt, gg, hm0, c_10, hB, hT.none hd])⟩
  · intro s_4 σ_8 a_5 hI hp
    rw [I_6_] at hI
    obtain ⟨q_9, q_10, q_11, q_12, q_13, q_14, ht_15, ha_16, hn_17⟩ := hI
    try simp [gP, gt, gg, hm0, c_10, hB, q_9, q_10, q_11, q_12, q_13, q_14]
    rcases cond_cases hp with ⟨h_18, hp⟩ | ⟨h_18, hp⟩
    · try simp at h_18
      obtain ⟨e_19, h_20, hp⟩ := bind_some hp
      have b_21 := at_lo h_20
      have b_22 := at_hi h_20
      try simp at b_21
      try simp at b_22
      obtain ⟨_, h_23, hp⟩ := bind_some hp
      have h_24 := takeI_eq h_23
      have c_25 := seg_dead h_20 h_24 0 2 rfl rfl (cs := [(.l .own e_19.vars.length (encL e_19.vars)), (.l .own e_19.next.length (encL e_19.next))]) rfl
      try simp at c_25
      have c_26 := splice_dead h_20 h_24 0 rfl (cs := [C.dead, C.dead]) rfl
      try simp at c_26
      have n_27 := hn_17 (d + 1, 9) (by simp) (by simp)
      obtain ⟨y_28, h_29, hp⟩ := bind_some hp
      try simp [gP, gt, gg, hm0, c_10, hB, q_9, q_10, q_11, q_12, q_13, q_14, h_18, b_21, b_22, c_25, c_26, n_27]
      refine goal_call ([av .bor e_19] ++ capsAV caps_accept) (Res.res y_28) (by simp [capsAV, gP, gt, gg, hm0, c_10, hB, q_9, q_10, q_11, q_12, q_13, q_14, h_18]) (hc_accept _ _ _ (e_19, ()) _ (Nat.le_succ d) (by repeat (first | exact ha_16 | exact fun k hk => rfl | refine Agree.upd ?_ (by simp))) (by repeat (first | exact ht_15 | exact tight_mem0 _ | exact hT.up | exact hT | (simp only [q_9, q_10, q_11, q_12, q_13, q_14]; done) | refine Tight.upd ?_ (by simp) (by simp))) ⟨_, _, (.inr rfl), rfl, rfl⟩ h_29) ?_
      try simp [gP, gt, gg, hm0, c_10, hB, q_9, q_10, q_11, q_12, q_13, q_14, h_18]
      rcases cond_cases hp with ⟨h_30, hp⟩ | ⟨h_30, hp⟩
      · try simp at h_30
        obtain ⟨_, h_31, hp⟩ := bind_some hp
        have b_32 := room_ok h_31
        try simp at b_32
        cases hp
        try simp [gP, gt, gg, hm0, c_10, hB, q_9, q_10, q_11, q_12, q_13, q_14, h_18, h_30, b_32]
        refine goal_next ?_
        rw [I_6_]
        exact ⟨by simp [restrict_env, gP, gt, gg, hm0, c_10, hB, q_9, q_10, q_11, q_12, q_13, q_14, h_18, h_30, b_32] <;> first | (intro x x1 x2 hx; have h0 := hl_accept _ hx; simp at h0; omega) | (intro x hx; have h0 := hl_accept _ hx; simp at h0; omega), by simp [restrict_env, gP, gt, gg, hm0, c_10, hB, q_9, q_10, q_11, q_12, q_13, q_14, h_18, h_30, b_32], by simp [restrict_env, gP, gt, gg, hm0, c_10, hB, q_9, q_10, q_11, q_12, q_13, q_14, h_18, h_30, b_32], by simp [restrict_env, gP, gt, gg, hm0, c_10, hB, q_9, q_10, q_11, q_12, q_13, q_14, h_18, h_30, b_32], by simp [restrict_env, gP, gt, gg, hm0, c_10, hB, q_9, q_10, q_11, q_12, q_13, q_14, h_18, h_30, b_32], by simp [restrict_mem, gP, gt, gg, hm0, c_10, hB, q_9, q_10, q_11, q_12, q_13, q_14, h_18, h_30, b_32], (by repeat (first | exact ht_15 | exact tight_mem0 _ | exact hT.up | exact hT | refine Tight.restrict ?_ | refine Tight.upd ?_ (by simp) (by simp))), (by repeat (first | exact ha_16 | exact fun k hk => rfl | refine Agree.restrict hT ?_ | refine Agree.upd ?_ (by simp))), NoBoxD.restrict (by intro k hd hk hb; simp at hk hb; simp [hk, hb, gP, gt, gg, hm0, c_10, hB, q_9, q_10, q_11, q_12, q_13, q_14, h_18, h_30, b_32, hn_17 k hd (by simp [hk, hb])])⟩
      · try simp at h_30
        cases hp
        try simp [gP, gt, gg, hm0, c_10, hB, q_9, q_10, q_11, q_12, q_13, q_14, h_18, h_30]
        refine goal_next ?_
        rw [I_6_]
        exact ⟨by simp [restrict_env, gP, gt, gg, hm0, c_10, hB, q_9, q_10, q_11, q_12, q_13, q_14, h_18, h_30] <;> first | (intro x x1 x2 hx; have h0 := hl_accept _ hx; simp at h0; omega) | (intro x hx; have h0 := hl_accept _ hx; simp at h0; omega), by simp [restrict_env, gP, gt, gg, hm0, c_10, hB, q_9, q_10, q_11, q_12, q_13, q_14, h_18, h_30], by simp [restrict_env, gP, gt, gg, hm0, c_10, hB, q_9, q_10, q_11, q_12, q_13, q_14, h_18, h_30], by simp [restrict_env, gP, gt, gg, hm0, c_10, hB, q_9, q_10, q_11, q_12, q_13, q_14, h_18, h_30], by simp [restrict_env, gP, gt, gg, hm0, c_10, hB, q_9, q_10, q_11, q_12, q_13, q_14, h_18, h_30], by simp [restrict_mem, gP, gt, gg, hm0, c_10, hB, q_9, q_10, q_11, q_12, q_13, q_14, h_18, h_30], (by repeat (first | exact ht_15 | exact tight_mem0 _ | exact hT.up | exact hT | refine Tight.restrict ?_ | refine Tight.upd ?_ (by simp) (by simp))), (by repeat (first | exact ha_16 | exact fun k hk => rfl | refine Agree.restrict hT ?_ | refine Agree.upd ?_ (by simp))), NoBoxD.restrict (by intro k hd hk hb; simp at hk hb; simp [hk, hb, gP, gt, gg, hm0, c_10, hB, q_9, q_10, q_11, q_12, q_13, q_14, h_18, h_30, hn_17 k hd (by simp [hk, hb])])⟩
    · try simp at h_18
      cases hp
      try simp [gP, gt, gg, hm0, c_10, hB, q_9, q_10, q_11, q_12, q_13, q_14, h_18]
      refine goal_outX ?_
      rw [X_7_]
      exact ⟨_, rfl, by simp [restrict_env, gP, gt, gg, hm0, c_10, hB, q_9, q_10, q_11, q_12, q_13, q_14, h_18], by simp [restrict_mem, gP, gt, gg, hm0, c_10, hB, q_9, q_10, q_11, q_12, q_13, q_14, h_18], (by repeat (first | exact ht_15 | exact tight_mem0 _ | exact hT.up | exact hT | refine Tight.restrict ?_ | refine Tight.upd ?_ (by simp) (by simp))), (by repeat (first | exact ha_16 | exact fun k hk => rfl | refine Agree.restrict hT ?_ | refine Agree.upd ?_ (by simp))), NoBoxD.restrict (by intro k hd hk hb; simp at hk hb; simp [hk, hb, gP, gt, gg, hm0, c_10, hB, q_9, q_10, q_11, q_12, q_13, q_14, h_18, hn_17 k hd (by simp [hk, hb])])⟩
  · intro out hX
    rw [X_7_] at hX
    obtain ⟨σ_35, rfl, q_36, q_37, ht_38, ha_39, hn_40⟩ := hX
    cases hp
    simp [Goal, FnEndI, memKill_hi, gP, gt, gg, hm0, c_10, hB, q_36, q_37, kill_back ha_39 hT]

abbrev G140 (g : Cfg) : Prop := Has Try.prog g 140 Try.f140 [] [] [(141, C141)] []
set_option maxHeartbeats 4000000 in
set_option maxRecDepth 100000 in
theorem wI140 {g : Cfg} (G : G140 g) {d : Nat} {mem : Mem} (hT : Tight d mem) {K_1 : Key} {h_ : THeap} {c0 : (List TStructure)} {m_0 : Md} (hm_0 : LentM m_0) {mk_1 : Md} (hk_1 : K_1.1 ≤ d) (hb_1 : mem K_1 = some [(.l mk_1 c0.length (encL c0))]) {y} (hp : impl_SmallHeapsOf_1 h_ c0 = some y) : callo g d 140 [av m_0 h_, .one (.ptr K_1 0)] mem = some (Res.res y, mem) := by
  have gP := G.P; have gt := G.tk; have gg := G.gh
  have c_141 := G.cs (141, C141) (by simp)
  have hT2 : memKill (fun k => decide (d < k.1)) mem = mem := hT
  have hm0 : ∀ t, mem (d + 1, t) = none := fun t => hT.none (by simp)
  have nk_1 : ∀ t, (K_1 = (d + 1, t)) = False := fun t => by simp; intro h; rw [h] at hk_1; simp at hk_1; omega
  refine start_in (Try.f140.body.getD .skip) [.tmp 3] G Try.func140 (by kernel_rfl) (by simp [Try.ntmps140]) rfl ?_
  unfold impl_SmallHeapsOf_1 at hp
  obtain ⟨y_1, h_2, hp⟩ := bind_some hp
  have c_3 := C141_eq h_2
  simp at c_3
  cases hp
  simp [Try.f140, Goal, FnEndI, memKill_hi, gP, gt, gg, hm0, c_141, hm_0.copy, hm_0.elem, hb_1, nk_1, c_3, hT2]

noncomputable def C89 : List AV → Option AV := specP (X := Int × (List TStructure) × Int × Unit) fun x => impl_SmallHeapsOf x.1 x.2.1 x.2.2.1
theorem C89_eq {vars set cells} {y} (h : impl_SmallHeapsOf vars set cells = some y) : C89 [av .shr vars, av .shr set, av .shr cells] = some (Res.res y) := specP_eq (X := Int × (List TStructure) × Int × Unit) (F := fun x => impl_SmallHeapsOf x.1 x.2.1 x.2.2.1) (x := (vars, set, cells, ())) h
noncomputable def g89 : Cfg := { P := Try.prog, take := [(139, 18), (139, 22), (139, 23), (139, 27)], keep := [((139, 3), { hd := [2, 7, 13, 14, 15], bx := [9], ex := [7], rt := [6] })], gho := [((139, 2000002), [.thaw (.sl 13 0) 13 2])], ctx := [(10, C10), (141, C141)] }
@[simp] theorem g89_P : g89.P = Try.prog := rfl
@[simp] theorem g89_t : g89.take = [(139, 18), (139, 22), (139, 23), (139, 27)] := rfl
@[simp] theorem g89_g : g89.gho = [((139, 2000002), [.thaw (.sl 13 0) 13 2])] := rfl
@[simp] theorem g89_10 : lookN 10 g89.ctx = some C10 := rfl
@[simp] theorem g89_141 : lookN 141 g89.ctx = some C141 := rfl
@[simp] theorem g89_139 : lookN 139 g89.ctx = none := rfl
@[simp] theorem g89_140 : lookN 140 g89.ctx = none := rfl
set_option maxHeartbeats 4000000 in
set_option maxRecDepth 100000 in
theorem w89 {vars set cells} {y} (hp : impl_SmallHeapsOf vars set cells = some y) : ∃ m, callo g89 0 89 [av .shr vars, av .shr set, av .shr cells] mem0 = some (Res.res y, m) := by
  have G_139 : G139 g89 := ⟨rfl, by kernel_rfl, rfl, fun t => by simp, fun i => by simp [lookK], by simp [g89, lookK], by simp⟩
  have G_140 : G140 g89 := ⟨rfl, by kernel_rfl, rfl, fun t => by simp, fun i => by simp [lookK], by simp [g89, lookK], by simp⟩
  refine start_fn (Try.f89.body.getD .skip) [.tmp 6] rfl rfl Try.func89 (by kernel_rfl) (by kernel_rfl) (by simp [Try.ntmps89]) rfl ?_
  unfold impl_SmallHeapsOf at hp
  obtain ⟨y_1, h_2, hp⟩ := bind_some hp
  simp [Try.f89]
  refine goal_call [av .shr vars, av .shr cells, .one (.fn 140 [((1, 4), 0)])] (Res.res y_1) (by simp) (wI139 G_139 (by repeat (first | exact tight_mem0 _ | exact hT.up | exact hT | (simp only [true_and]; done) | refine Tight.upd ?_ (by simp) (by simp))) (fun x => by simp only [upd_get, mem0]; (repeat' split) <;> simp_all) (by simp) (clo1 (p := fun x0 => impl_SmallHeapsOf_1 x0 set) fun d2 mem2 m0 x0 r2 hd2 ha2 hT2 hm0 hr2 => wI140 (mk_1 := .shr) G_140 hT2 hm0 (show 1 ≤ d2 from hd2) ((ha2 _ (Nat.le_refl _)).trans (by simp)) hr2) h_2) ?_
  cases hp
  simp [Goal, FnEnd]
theorem pc89 : PC Try.prog 89 C89 := pc_of (g := g89) (ctxOK_of [(10, C10), (141, C141)] rfl ⟨pc10, pc141, trivial⟩) ⟨Try.f89, Try.func89, by kernel_rfl, by kernel_rfl⟩ fun x y h => w89 h

noncomputable def C33 : List AV → Option AV := specP (X := Int × (List TStructure) × Int × Unit) fun x => impl_CountDescribed x.1 x.2.1 x.2.2.1
theorem C33_eq {vars set cells} {y} (h : impl_CountDescribed vars set cells = some y) : C33 [av .shr vars, av .shr set, av .shr cells] = some (Res.res y) := specP_eq (X := Int × (List TStructure) × Int × Unit) (F := fun x => impl_CountDescribed x.1 x.2.1 x.2.2.1) (x := (vars, set, cells, ())) h
noncomputable def g33 : Cfg := { P := Try.prog, take := [], keep := [], gho := [], ctx := [(89, C89)] }
@[simp] theorem g33_P : g33.P = Try.prog := rfl
@[simp] theorem g33_t : g33.take = [] := rfl
@[simp] theorem g33_g : g33.gho = [] := rfl
@[simp] theorem g33_89 : lookN 89 g33.ctx = some C89 := rfl
set_option maxHeartbeats 4000000 in
set_option maxRecDepth 100000 in
theorem w33 {vars set cells} {y} (hp : impl_CountDescribed vars set cells = some y) : ∃ m, callo g33 0 33 [av .shr vars, av .shr set, av .shr cells] mem0 = some (Res.res y, m) := by
  refine start_fn (Try.f33.body.getD .skip) [.tmp 6] rfl rfl Try.func33 (by kernel_rfl) (by kernel_rfl) (by simp [Try.ntmps33]) rfl ?_
  unfold impl_CountDescribed at hp
  obtain ⟨y_1, h_2, hp⟩ := bind_some hp
  have c_3 := C89_eq h_2
  simp at c_3
  cases hp
  simp [Try.f33, Goal, FnEnd, c_3]
theorem pc33 : PC Try.prog 33 C33 := pc_of (g := g33) (ctxOK_of [(89, C89)] rfl ⟨pc89, trivial⟩) ⟨Try.f33, Try.func33, by kernel_rfl, by kernel_rfl⟩ fun x y h => w33 h

noncomputable def C85 : List AV → Option AV := specP (X := (List Int) × (List Int) × Unit) fun x => laws_eqIntS x.1 x.2.1
theorem C85_eq {a_ b_} {y} (h : laws_eqIntS a_ b_ = some y) : C85 [av .shr a_, av .shr b_] = some (Res.res y) := specP_eq (X := (List Int) × (List Int) × Unit) (F := fun x => laws_eqIntS x.1 x.2.1) (x := (a_, b_, ())) h
noncomputable def g85 : Cfg := { P := Try.prog, take := [], keep := [((85, 4), { hd := [0, 1, 5], bx := [], ex := [], rt := [4] })], gho := [], ctx := [] }
@[simp] theorem g85_P : g85.P = Try.prog := rfl
@[simp] theorem g85_t : g85.take = [] := rfl
@[simp] theorem g85_g : g85.gho = [] := rfl
set_option maxHeartbeats 4000000 in
set_option maxRecDepth 100000 in
theorem w85 {a_ b_} {y} (hp : laws_eqIntS a_ b_ = some y) : ∃ m, callo g85 0 85 [av .shr a_, av .shr b_] mem0 = some (Res.res y, m) := by
  refine start_fn (Try.f85.body.getD .skip) [.tmp 4] rfl rfl Try.func85 (by kernel_rfl) (by kernel_rfl) (by simp [Try.ntmps85]) rfl ?_
  unfold laws_eqIntS at hp
  simp [Try.f85]
  rcases cond_cases hp with ⟨h_1, hp⟩ | ⟨h_1, hp⟩
  · try simp at h_1
    cases hp
    simp [Goal, FnEnd, h_1]
  · try simp at h_1
    try simp [h_1]
    obtain ⟨r_23, h_24, hp⟩ := bind_some hp
    obtain ⟨I_4, I_4_⟩ : ∃ I : Int → St → Prop, I = (fun (s_2 : Int) (σ : St) => σ.env 0 = .one (.l .shr a_.length (encL a_)) ∧ σ.env 1 = .one (.l .shr b_.length (encL b_)) ∧ σ.env 5 = .one (.s (.int .i64 s_2)) ∧ σ.mem = mem0) := ⟨_, rfl⟩
    obtain ⟨X_5, X_5_⟩ : ∃ X : ((Unit) ⊕ (Unit)) → Out → Prop, X = (fun (r_23 : (Unit) ⊕ (Unit)) (out : Out) => Sum.elim (fun r_23 => ∃ σ : St, out = .ret σ ∧ σ.env 4 = .one (.s (.bool false)) ∧ σ.mem = mem0) (fun r_23 => ∃ σ : St, out = .exit 0 σ ∧ σ.mem = mem0) r_23) := ⟨_, rfl⟩
    refine loopP ({ hd := [0, 1, 5], bx := [], ex := [], rt := [4] }) I_4 X_5 h_24 (by exact rfl) ?_ ?_ ?_
    · rw [I_4_]
      exact ⟨by simp [restrict_env, h_1], by simp [restrict_env, h_1], by simp [restrict_env, h_1], by simp [restrict_mem, h_1]⟩
    · intro s_2 σ_6 a_3 hI hp
      rw [I_4_] at hI
      obtain ⟨q_7, q_8, q_9, q_10⟩ := hI
      try simp [h_1, q_7, q_8, q_9, q_10]
      rcases cond_cases hp with ⟨h_11, hp⟩ | ⟨h_11, hp⟩
      · try simp at h_11
        obtain ⟨e_12, h_13, hp⟩ := bind_some hp
        have b_14 := at_lo h_13
        have b_15 := at_hi h_13
        try simp at b_14
        try simp at b_15
        have c_16 := seg_at' h_13 0 1 (by decide) (ds := [.sc (.int .i64 e_12)]) rfl
        try simp at c_16
        obtain ⟨e_17, h_18, hp⟩ := bind_some hp
        have b_19 := at_lo h_18
        have b_20 := at_hi h_18
        try simp at b_19
        try simp at b_20
        have c_21 := seg_at' h_18 0 1 (by decide) (ds := [.sc (.int .i64 e_17)]) rfl
        try simp at c_21
        try simp [h_1, q_7, q_8, q_9, q_10, h_11, b_14, b_15, c_16, b_19, b_20, c_21]
        rcases cond_cases hp with ⟨h_22, hp⟩ | ⟨h_22, hp⟩
        · try simp at h_22
          cases hp
          try simp [h_1, q_7, q_8, q_9, q_10, h_11, h_22]
          refine goal_outR ?_
          rw [X_5_]
          exact ⟨_, rfl, by simp [restrict_env, h_1, q_7, q_8, q_9, q_10, h_11, h_22], by simp [restrict_mem, h_1, q_7, q_8, q_9, q_10, h_11, h_22]⟩
        · try simp at h_22
          cases hp
          try simp [h_1, q_7, q_8, q_9, q_10, h_11, h_22]
          refine goal_next ?_
          rw [I_4_]
          exact ⟨by simp [restrict_env, h_1, q_7, q_8, q_9, q_10, h_11, h_22], by simp [restrict_env, h_1, q_7, q_8, q_9, q_10, h_11, h_22], by simp [restrict_env, h_1, q_7, q_8, q_9, q_10, h_11, h_22], by simp [restrict_mem, h_1, q_7, q_8, q_9, q_10, h_11, h_22]⟩
      · try simp at h_11
        cases hp
        try simp [h_1, q_7, q_8, q_9, q_10, h_11]
        refine goal_outX ?_
        rw [X_5_]
        exact ⟨_, rfl, by simp [restrict_mem, h_1, q_7, q_8, q_9, q_10, h_11]⟩
    · intro out hX
      rw [X_5_] at hX
      rcases r_23 with r_23 | r_23
      · simp only [Sum.elim_inl, Sum.elim_inr] at hX hp
        obtain ⟨σ_25, rfl, q_26, q_27⟩ := hX
        cases hp
        simp [Goal, FnEnd, h_1, q_26, q_27]
      · simp only [Sum.elim_inl, Sum.elim_inr] at hX hp
        obtain ⟨σ_28, rfl, q_29⟩ := hX
        cases hp
        simp [Goal, FnEnd, h_1, q_29]
theorem pc85 : PC Try.prog 85 C85 := pc_of (g := g85) (fun f F h => by cases h) ⟨Try.f85, Try.func85, by kernel_rfl, by kernel_rfl⟩ fun x y h => w85 h

noncomputable def C137 : List AV → Option AV := specP (X := TNode × TNode × Unit) fun x => laws_eqNode x.1 x.2.1
theorem C137_eq {a_ b_} {y} (h : laws_eqNode a_ b_ = some y) : C137 [av .shr a_, av .shr b_] = some (Res.res y) := specP_eq (X := TNode × TNode × Unit) (F := fun x => laws_eqNode x.1 x.2.1) (x := (a_, b_, ())) h
noncomputable def g137 : Cfg := { P := Try.prog, take := [], keep := [], gho := [], ctx := [(85, C85)] }
@[simp] theorem g137_P : g137.P = Try.prog := rfl
@[simp] theorem g137_t : g137.take = [] := rfl
@[simp] theorem g137_g : g137.gho = [] := rfl
@[simp] theorem g137_85 : lookN 85 g137.ctx = some C85 := rfl
set_option maxHeartbeats 4000000 in
set_option maxRecDepth 100000 in
theorem w137 {a_ b_} {y} (hp : laws_eqNode a_ b_ = some y) : ∃ m, callo g137 0 137 [av .shr a_, av .shr b_] mem0 = some (Res.res y, m) := by
  refine start_fn (Try.f137.body.getD .skip) [.tmp 4] rfl rfl Try.func137 (by kernel_rfl) (by kernel_rfl) (by simp [Try.ntmps137]) rfl ?_
  unfold laws_eqNode at hp
  obtain ⟨y_1, h_2, hp⟩ := bind_some hp
  have c_3 := C85_eq h_2
  simp at c_3
  simp [Try.f137, c_3]
  rcases cond_cases hp with ⟨h_4, hp⟩ | ⟨h_4, hp⟩
  · try simp at h_4
    obtain ⟨y_5, h_6, hp⟩ := bind_some hp
    have c_7 := C85_eq h_6
    simp at c_7
    try simp [h_4, c_7]
    rcases cond_cases hp with ⟨h_8, hp⟩ | ⟨h_8, hp⟩
    · try simp at h_8
      try simp [h_4, h_8]
      rcases cond_cases hp with ⟨h_9, hp⟩ | ⟨h_9, hp⟩
      · try simp at h_9
        cases hp
        simp [Goal, FnEnd, h_4, h_8, h_9]
      · try simp at h_9
        try simp [h_4, h_8, h_9]
        rcases cond_cases hp with ⟨h_10, hp⟩ | ⟨h_10, hp⟩
        · try simp at h_10
          cases hp
          simp [Goal, FnEnd, h_4, h_8, h_9, h_10]
        · try simp at h_10
          cases hp
          simp [Goal, FnEnd, h_4, h_8, h_9, h_10]
    · try simp at h_8
      cases hp
      simp [Goal, FnEnd, h_4, h_8]
  · try simp at h_4
    cases hp
    simp [Goal, FnEnd, h_4]
theorem pc137 : PC Try.prog 137 C137 := pc_of (g := g137) (ctxOK_of [(85, C85)] rfl ⟨pc85, trivial⟩) ⟨Try.f137, Try.func137, by kernel_rfl, by kernel_rfl⟩ fun x y h => w137 h

noncomputable def C84 : List AV → Option AV := specP (X := (List TNode) × (List TNode) × Unit) fun x => laws_eqNodeS x.1 x.2.1
theorem C84_eq {a_ b_} {y} (h : laws_eqNodeS a_ b_ = some y) : C84 [av .shr a_, av .shr b_] = some (Res.res y) := specP_eq (X := (List TNode) × (List TNode) × Unit) (F := fun x => laws_eqNodeS x.1 x.2.1) (x := (a_, b_, ())) h
noncomputable def g84 : Cfg := { P := Try.prog, take := [], keep := [((84, 4), { hd := [0, 1, 5], bx := [], ex := [], rt := [4] })], gho := [], ctx := [(137, C137)] }
@[simp] theorem g84_P : g84.P = Try.prog := rfl
@[simp] theorem g84_t : g84.take = [] := rfl
@[simp] theorem g84_g : g84.gho = [] := rfl
@[simp] theorem g84_137 : lookN 137 g84.ctx = some C137 := rfl
set_option maxHeartbeats 4000000 in
set_option maxRecDepth 100000 in
theorem w84 {a_ b_} {y} (hp : laws_eqNodeS a_ b_ = some y) : ∃ m, callo g84 0 84 [av .shr a_, av .shr b_] mem0 = some (Res.res y, m) := by
  refine start_fn (Try.f84.body.getD .skip) [.tmp 4] rfl rfl Try.func84 (by kernel_rfl) (by kernel_rfl) (by simp [Try.ntmps84]) rfl ?_
  unfold laws_eqNodeS at hp
  simp [Try.f84]
  rcases cond_cases hp with ⟨h_1, hp⟩ | ⟨h_1, hp⟩
  · try simp at h_1
    cases hp
    simp [Goal, FnEnd, h_1]
  · try simp at h_1
    try simp [h_1]
    obtain ⟨r_26, h_27, hp⟩ := bind_some hp
    obtain ⟨I_4, I_4_⟩ : ∃ I : Int → St → Prop, I = (fun (s_2 : Int) (σ : St) => σ.env 0 = .one (.l .shr a_.length (encL a_)) ∧ σ.env 1 = .one (.l .shr b_.length (encL b_)) ∧ σ.env 5 = .one (.s (.int .i64 s_2)) ∧ σ.mem = mem0) := ⟨_, rfl⟩
    obtain ⟨X_5, X_5_⟩ : ∃ X : ((Unit) ⊕ (Unit)) → Out → Prop, X = (fun (r_26 : (Unit) ⊕ (Unit)) (out : Out) => Sum.elim (fun r_26 => ∃ σ : St, out = .ret σ ∧ σ.env 4 = .one (.s (.bool false)) ∧ σ.mem = mem0) (fun r_26 => ∃ σ : St, out = .exit 0 σ ∧ σ.mem = mem0) r_26) := ⟨_, rfl⟩
    refine loopP ({ hd := [0, 1, 5], bx := [], ex := [], rt := [4] }) I_4 X_5 h_27 (by exact rfl) ?_ ?_ ?_
    · rw [I_4_]
      exact ⟨by simp [restrict_env, h_1], by simp [restrict_env, h_1], by simp [restrict_env, h_1], by simp [restrict_mem, h_1]⟩
    · intro s_2 σ_6 a_3 hI hp
      rw [I_4_] at hI
      obtain ⟨q_7, q_8, q_9, q_10⟩ := hI
      try simp [h_1, q_7, q_8, q_9, q_10]
      rcases cond_cases hp with ⟨h_11, hp⟩ | ⟨h_11, hp⟩
      · try simp at h_11
        obtain ⟨e_12, h_13, hp⟩ := bind_some hp
        have b_14 := at_lo h_13
        have b_15 := at_hi h_13
        try simp at b_14
        try simp at b_15
        have c_16 := seg_at' h_13 0 4 (by decide) (ds := [.sl e_12.vars.length (encL e_12.vars), .sl e_12.reach.length (encL e_12.reach), .sc (.int .i64 e_12.shared), .sc (.int .i64 e_12.many)]) rfl
        try simp at c_16
        obtain ⟨e_17, h_18, hp⟩ := bind_some hp
        have b_19 := at_lo h_18
        have b_20 := at_hi h_18
        try simp at b_19
        try simp at b_20
        have c_21 := seg_at' h_18 0 4 (by decide) (ds := [.sl e_17.vars.length (encL e_17.vars), .sl e_17.reach.length (encL e_17.reach), .sc (.int .i64 e_17.shared), .sc (.int .i64 e_17.many)]) rfl
        try simp at c_21
        obtain ⟨y_22, h_23, hp⟩ := bind_some hp
        have c_24 := C137_eq h_23
        simp at c_24
        try simp [h_1, q_7, q_8, q_9, q_10, h_11, b_14, b_15, c_16, b_19, b_20, c_21, c_24]
        rcases cond_cases hp with ⟨h_25, hp⟩ | ⟨h_25, hp⟩
        · try simp at h_25
          cases hp
          try simp [h_1, q_7, q_8, q_9, q_10, h_11, h_25]
          refine goal_next ?_
          rw [I_4_]
          exact ⟨by simp [restrict_env, h_1, q_7, q_8, q_9, q_10, h_11, h_25], by simp [restrict_env, h_1, q_7, q_8, q_9, q_10, h_11, h_25], by simp [restrict_env, h_1, q_7, q_8, q_9, q_10, h_11, h_25], by simp [restrict_mem, h_1, q_7, q_8, q_9, q_10, h_11, h_25]⟩
        · try simp at h_25
          cases hp
          try simp [h_1, q_7, q_8, q_9, q_10, h_11, h_25]
          refine goal_outR ?_
          rw [X_5_]
          exact ⟨_, rfl, by simp [restrict_env, h_1, q_7, q_8, q_9, q_10, h_11, h_25], by simp [restrict_mem, h_1, q_7, q_8, q_9, q_10, h_11, h_25]⟩
      · try simp at h_11
        cases hp
        try simp [h_1, q_7, q_8, q_9, q_10, h_11]
        refine goal_outX ?_
        rw [X_5_]
        exact ⟨_, rfl, by simp [restrict_mem, h_1, q_7, q_8, q_9, q_10, h_11]⟩
    · intro out hX
      rw [X_5_] at hX
      rcases r_26 with r_26 | r_26
      · simp only [Sum.elim_inl, Sum.elim_inr] at hX hp
        obtain ⟨σ_28, rfl, q_29, q_30⟩ := hX
        cases hp
        simp [Goal, FnEnd, h_1, q_29, q_30]
      · simp only [Sum.elim_inl, Sum.elim_inr] at hX hp
        obtain ⟨σ_31, rfl, q_32⟩ := hX
        cases hp
        simp [Goal, FnEnd, h_1, q_32]
theorem pc84 : PC Try.prog 84 C84 := pc_of (g := g84) (ctxOK_of [(137, C137)] rfl ⟨pc137, trivial⟩) ⟨Try.f84, Try.func84, by kernel_rfl, by kernel_rfl⟩ fun x y h => w84 h

noncomputable def C24 : List AV → Option AV := specP (X := TStructure × TStructure × Unit) fun x => laws_eqStructure x.1 x.2.1
theorem C24_eq {a_ b_} {y} (h : laws_eqStructure a_ b_ = some y) : C24 [av .shr a_, av .shr b_] = some (Res.res y) := specP_eq (X := TStructure × TStructure × Unit) (F := fun x => laws_eqStructure x.1 x.2.1) (x := (a_, b_, ())) h
noncomputable def g24 : Cfg := { P := Try.prog, take := [], keep := [], gho := [], ctx := [(84, C84), (85, C85)] }
@[simp] theorem g24_P : g24.P = Try.prog := rfl
@[simp] theorem g24_t : g24.take = [] := rfl
@[simp] theorem g24_g : g24.gho = [] := rfl
@[simp] theorem g24_84 : lookN 84 g24.ctx = some C84 := rfl
@[simp] theorem g24_85 : lookN 85 g24.ctx = some C85 := rfl
set_option maxHeartbeats 4000000 in
set_option maxRecDepth 100000 in
theorem w24 {a_ b_} {y} (hp : laws_eqStructure a_ b_ = some y) : ∃ m, callo g24 0 24 [av .shr a_, av .shr b_] mem0 = some (Res.res y, m) := by
  refine start_fn (Try.f24.body.getD .skip) [.tmp 4] rfl rfl Try.func24 (by kernel_rfl) (by kernel_rfl) (by simp [Try.ntmps24]) rfl ?_
  unfold laws_eqStructure at hp
  obtain ⟨y_1, h_2, hp⟩ := bind_some hp
  have c_3 := C84_eq h_2
  simp at c_3
  simp [Try.f24, c_3]
  rcases cond_cases hp with ⟨h_4, hp⟩ | ⟨h_4, hp⟩
  · try simp at h_4
    obtain ⟨y_5, h_6, hp⟩ := bind_some hp
    have c_7 := C85_eq h_6
    simp at c_7
    try simp [h_4, c_7]
    rcases cond_cases hp with ⟨h_8, hp⟩ | ⟨h_8, hp⟩
    · try simp at h_8
      cases hp
      simp [Goal, FnEnd, h_4, h_8]
    · try simp at h_8
      cases hp
      simp [Goal, FnEnd, h_4, h_8]
  · try simp at h_4
    cases hp
    simp [Goal, FnEnd, h_4]
theorem pc24 : PC Try.prog 24 C24 := pc_of (g := g24) (ctxOK_of [(84, C84), (85, C85)] rfl ⟨pc84, pc85, trivial⟩) ⟨Try.f24, Try.func24, by kernel_rfl, by kernel_rfl⟩ fun x y h => w24 h

noncomputable def C23 : List AV → Option AV := specP (X := (List TStructure) × (List TStructure) × Unit) fun x => laws_eqStructureS x.1 x.2.1
theorem C23_eq {a_ b_} {y} (h : laws_eqStructureS a_ b_ = some y) : C23 [av .shr a_, av .shr b_] = some (Res.res y) := specP_eq (X := (List TStructure) × (List TStructure) × Unit) (F := fun x => laws_eqStructureS x.1 x.2.1) (x := (a_, b_, ())) h
noncomputable def g23 : Cfg := { P := Try.prog, take := [], keep := [((23, 4), { hd := [0, 1, 5], bx := [], ex := [], rt := [4] })], gho := [], ctx := [(24, C24)] }
@[simp] theorem g23_P : g23.P = Try.prog := rfl
@[simp] theorem g23_t : g23.take = [] := rfl
@[simp] theorem g23_g : g23.gho = [] := rfl
@[simp] theorem g23_24 : lookN 24 g23.ctx = some C24 := rfl
set_option maxHeartbeats 4000000 in
set_option maxRecDepth 100000 in
theorem w23 {a_ b_} {y} (hp : laws_eqStructureS a_ b_ = some y) : ∃ m, callo g23 0 23 [av .shr a_, av .shr b_] mem0 = some (Res.res y, m) := by
  refine start_fn (Try.f23.body.getD .skip) [.tmp 4] rfl rfl Try.func23 (by kernel_rfl) (by kernel_rfl) (by simp [Try.ntmps23]) rfl ?_
  unfold laws_eqStructureS at hp
  simp [Try.f23]
  rcases cond_cases hp with ⟨h_1, hp⟩ | ⟨h_1, hp⟩
  · try simp at h_1
    cases hp
    simp [Goal, FnEnd, h_1]
  · try simp at h_1
    try simp [h_1]
    obtain ⟨r_26, h_27, hp⟩ := bind_some hp
    obtain ⟨I_4, I_4_⟩ : ∃ I : Int → St → Prop, I = (fun (s_2 : Int) (σ : St) => σ.env 0 = .one (.l .shr a_.length (encL a_)) ∧ σ.env 1 = .one (.l .shr b_.length (encL b_)) ∧ σ.env 5 = .one (.s (.int .i64 s_2)) ∧ σ.mem = mem0) := ⟨_, rfl⟩
    obtain ⟨X_5, X_5_⟩ : ∃ X : ((Unit) ⊕ (Unit)) → Out → Prop, X = (fun (r_26 : (Unit) ⊕ (Unit)) (out : Out) => Sum.elim (fun r_26 => ∃ σ : St, out = .ret σ ∧ σ.env 4 = .one (.s (.bool false)) ∧ σ.mem = mem0) (fun r_26 => ∃ σ : St, out = .exit 0 σ ∧ σ.mem = mem0) r_26) := ⟨_, rfl⟩
    refine loopP ({ hd := [0, 1, 5], bx := [], ex := [], rt := [4] }) I_4 X_5 h_27 (by exact rfl) ?_ ?_ ?_
    · rw [I_4_]
      exact ⟨by simp [restrict_env, h_1], by simp [restrict_env, h_1], by simp [restrict_env, h_1], by simp [restrict_mem, h_1]⟩
    · intro s_2 σ_6 a_3 hI hp
      rw [I_4_] at hI
      obtain ⟨q_7, q_8, q_9, q_10⟩ := hI
      try simp [h_1, q_7, q_8, q_9, q_10]
      rcases cond_cases hp with ⟨h_11, hp⟩ | ⟨h_11, hp⟩
      · try simp at h_11
        obtain ⟨e_12, h_13, hp⟩ := bind_some hp
        have b_14 := at_lo h_13
        have b_15 := at_hi h_13
        try simp at b_14
        try simp at b_15
        have c_16 := seg_at' h_13 0 2 (by decide) (ds := [.sl e_12.nodes.length (encL e_12.nodes), .sl e_12.next.length (encL e_12.next)]) rfl
        try simp at c_16
        obtain ⟨e_17, h_18, hp⟩ := bind_some hp
        have b_19 := at_lo h_18
        have b_20 := at_hi h_18
        try simp at b_19
        try simp at b_20
        have c_21 := seg_at' h_18 0 2 (by decide) (ds := [.sl e_17.nodes.length (encL e_17.nodes), .sl e_17.next.length (encL e_17.next)]) rfl
        try simp at c_21
        obtain ⟨y_22, h_23, hp⟩ := bind_some hp
        have c_24 := C24_eq h_23
        simp at c_24
        try simp [h_1, q_7, q_8, q_9, q_10, h_11, b_14, b_15, c_16, b_19, b_20, c_21, c_24]
        rcases cond_cases hp with ⟨h_25, hp⟩ | ⟨h_25, hp⟩
        · try simp at h_25
          cases hp
          try simp [h_1, q_7, q_8, q_9, q_10, h_11, h_25]
          refine goal_next ?_
          rw [I_4_]
          exact ⟨by simp [restrict_env, h_1, q_7, q_8, q_9, q_10, h_11, h_25], by simp [restrict_env, h_1, q_7, q_8, q_9, q_10, h_11, h_25], by simp [restrict_env, h_1, q_7, q_8, q_9, q_10, h_11, h_25], by simp [restrict_mem, h_1, q_7, q_8, q_9, q_10, h_11, h_25]⟩
        · try simp at h_25
          cases hp
          try simp [h_1, q_7, q_8, q_9, q_10, h_11, h_25]
          refine goal_outR ?_
          rw [X_5_]
          exact ⟨_, rfl, by simp [restrict_env, h_1, q_7, q_8, q_9, q_10, h_11, h_25], by simp [restrict_mem, h_1, q_7, q_8, q_9, q_10, h_11, h_25]⟩
      · try simp at h_11
        cases hp
        try simp [h_1, q_7, q_8, q_9, q_10, h_11]
        refine goal_outX ?_
        rw [X_5_]
        exact ⟨_, rfl, by simp [restrict_mem, h_1, q_7, q_8, q_9, q_10, h_11]⟩
    · intro out hX
      rw [X_5_] at hX
      rcases r_26 with r_26 | r_26
      · simp only [Sum.elim_inl, Sum.elim_inr] at hX hp
        obtain ⟨σ_28, rfl, q_29, q_30⟩ := hX
        cases hp
        simp [Goal, FnEnd, h_1, q_29, q_30]
      · simp only [Sum.elim_inl, Sum.elim_inr] at hX hp
        obtain ⟨σ_31, rfl, q_32⟩ := hX
        cases hp
        simp [Goal, FnEnd, h_1, q_32]
theorem pc23 : PC Try.prog 23 C23 := pc_of (g := g23) (ctxOK_of [(24, C24)] rfl ⟨pc24, trivial⟩) ⟨Try.f23, Try.func23, by kernel_rfl, by kernel_rfl⟩ fun x y h => w23 h

noncomputable def C7 : List AV → Option AV := specP (X := Int × (List TStructure) × Int × Unit) fun x => laws_FnExactCountDescribed x.1 x.2.1 x.2.2.1
theorem C7_eq {aVars aSet aCells} {y} (h : laws_FnExactCountDescribed aVars aSet aCells = some y) : C7 [av .shr aVars, av .shr aSet, av .shr aCells] = some (Res.res y) := specP_eq (X := Int × (List TStructure) × Int × Unit) (F := fun x => laws_FnExactCountDescribed x.1 x.2.1 x.2.2.1) (x := (aVars, aSet, aCells, ())) h
noncomputable def g7 : Cfg := { P := Try.prog, take := [], keep := [], gho := [], ctx := [(23, C23), (30, C30), (31, C31), (32, C32), (33, C33)] }
@[simp] theorem g7_P : g7.P = Try.prog := rfl
@[simp] theorem g7_t : g7.take = [] := rfl
@[simp] theorem g7_g : g7.gho = [] := rfl
@[simp] theorem g7_23 : lookN 23 g7.ctx = some C23 := rfl
@[simp] theorem g7_30 : lookN 30 g7.ctx = some C30 := rfl
@[simp] theorem g7_31 : lookN 31 g7.ctx = some C31 := rfl
@[simp] theorem g7_32 : lookN 32 g7.ctx = some C32 := rfl
@[simp] theorem g7_33 : lookN 33 g7.ctx = some C33 := rfl
set_option maxHeartbeats 4000000 in
set_option maxRecDepth 100000 in
theorem w7 {aVars aSet aCells} {y} (hp : laws_FnExactCountDescribed aVars aSet aCells = some y) : ∃ m, callo g7 0 7 [av .shr aVars, av .shr aSet, av .shr aCells] mem0 = some (Res.res y, m) := by
  refine start_fn (Try.f7.body.getD .skip) [.tmp 6] rfl rfl Try.func7 (by kernel_rfl) (by kernel_rfl) (by simp [Try.ntmps7]) rfl ?_
  unfold laws_FnExactCountDescribed at hp
  obtain ⟨y_1, h_2, hp⟩ := bind_some hp
  have c_3 := C30_eq h_2
  simp at c_3
  simp [Try.f7, c_3]
  rcases cond_cases hp with ⟨h_4, hp⟩ | ⟨h_4, hp⟩
  · try simp at h_4
    cases hp
    simp [Goal, FnEnd, h_4]
  · try simp at h_4
    obtain ⟨y_5, h_6, hp⟩ := bind_some hp
    have c_7 := C32_eq h_6
    simp at c_7
    obtain ⟨y_8, h_9, hp⟩ := bind_some hp
    have c_10 := C31_eq h_9
    simp at c_10
    obtain ⟨y_11, h_12, hp⟩ := bind_some hp
    cases Option.some.inj (h_6.symm.trans h_12)
    obtain ⟨y_13, h_14, hp⟩ := bind_some hp
    have c_15 := C33_eq h_14
    simp at c_15
    try simp [h_4, c_7, c_10, c_7, c_15]
    rcases cond_cases hp with ⟨h_16, hp⟩ | ⟨h_16, hp⟩
    · try simp at h_16
      cases hp
      simp [Goal, FnEnd, h_4, h_16]
    · try simp at h_16
      obtain ⟨y_17, h_18, hp⟩ := bind_some hp
      cases Option.some.inj (h_6.symm.trans h_18)
      obtain ⟨y_19, h_20, hp⟩ := bind_some hp
      have c_21 := C23_eq h_20
      simp at c_21
      try simp [h_4, h_16, c_7, c_21]
      rcases cond_cases hp with ⟨h_22, hp⟩ | ⟨h_22, hp⟩
      · try simp at h_22
        cases hp
        simp [Goal, FnEnd, h_4, h_16, h_22]
      · try simp at h_22
        cases hp
        simp [Goal, FnEnd, h_4, h_16, h_22]
theorem pc7 : PC Try.prog 7 C7 := pc_of (g := g7) (ctxOK_of [(23, C23), (30, C30), (31, C31), (32, C32), (33, C33)] rfl ⟨pc23, pc30, pc31, pc32, pc33, trivial⟩) ⟨Try.f7, Try.func7, by kernel_rfl, by kernel_rfl⟩ fun x y h => w7 h

noncomputable def C28 : List AV → Option AV := specP (X := Int × TStructure × Int × Unit) fun x => spec_IsPrecise x.1 x.2.1 x.2.2.1
theorem C28_eq {vars s cells} {y} (h : spec_IsPrecise vars s cells = some y) : C28 [av .shr vars, av .shr s, av .shr cells] = some (Res.res y) := specP_eq (X := Int × TStructure × Int × Unit) (F := fun x => spec_IsPrecise x.1 x.2.1 x.2.2.1) (x := (vars, s, cells, ())) h
noncomputable def g28 : Cfg := { P := Try.prog, take := [], keep := [], gho := [], ctx := [(31, C31)] }
@[simp] theorem g28_P : g28.P = Try.prog := rfl
@[simp] theorem g28_t : g28.take = [] := rfl
@[simp] theorem g28_g : g28.gho = [] := rfl
@[simp] theorem g28_31 : lookN 31 g28.ctx = some C31 := rfl
set_option maxHeartbeats 4000000 in
set_option maxRecDepth 100000 in
theorem w28 {vars s cells} {y} (hp : spec_IsPrecise vars s cells = some y) : ∃ m, callo g28 0 28 [av .shr vars, av .shr s, av .shr cells] mem0 = some (Res.res y, m) := by
  refine start_fn (Try.f28.body.getD .skip) [.tmp 6] rfl rfl Try.func28 (by kernel_rfl) (by kernel_rfl) (by simp [Try.ntmps28]) rfl ?_
  unfold spec_IsPrecise at hp
  obtain ⟨y_1, h_2, hp⟩ := bind_some hp
  have c_3 := C31_eq h_2
  simp at c_3
  cases hp
  simp [Try.f28, Goal, FnEnd, c_3]
theorem pc28 : PC Try.prog 28 C28 := pc_of (g := g28) (ctxOK_of [(31, C31)] rfl ⟨pc31, trivial⟩) ⟨Try.f28, Try.func28, by kernel_rfl, by kernel_rfl⟩ fun x y h => w28 h

noncomputable def C29 : List AV → Option AV := specP (X := Int × TStructure × Int × Unit) fun x => impl_IsPrecise x.1 x.2.1 x.2.2.1
theorem C29_eq {vars s cells} {y} (h : impl_IsPrecise vars s cells = some y) : C29 [av .shr vars, av .shr s, av .shr cells] = some (Res.res y) := specP_eq (X := Int × TStructure × Int × Unit) (F := fun x => impl_IsPrecise x.1 x.2.1 x.2.2.1) (x := (vars, s, cells, ())) h
noncomputable def g29 : Cfg := { P := Try.prog, take := [], keep := [], gho := [], ctx := [(33, C33)] }
@[simp] theorem g29_P : g29.P = Try.prog := rfl
@[simp] theorem g29_t : g29.take = [] := rfl
@[simp] theorem g29_g : g29.gho = [] := rfl
@[simp] theorem g29_33 : lookN 33 g29.ctx = some C33 := rfl
set_option maxHeartbeats 4000000 in
set_option maxRecDepth 100000 in
theorem w29 {vars s cells} {y} (hp : impl_IsPrecise vars s cells = some y) : ∃ m, callo g29 0 29 [av .shr vars, av .shr s, av .shr cells] mem0 = some (Res.res y, m) := by
  refine start_fn (Try.f29.body.getD .skip) [.tmp 6] rfl rfl Try.func29 (by kernel_rfl) (by kernel_rfl) (by simp [Try.ntmps29]) rfl ?_
  unfold impl_IsPrecise at hp
  obtain ⟨y_1, h_2, hp⟩ := bind_some hp
  have c_3 := C33_eq h_2
  simp at c_3
  cases hp
  simp [Try.f29, Goal, FnEnd, c_3]
theorem pc29 : PC Try.prog 29 C29 := pc_of (g := g29) (ctxOK_of [(33, C33)] rfl ⟨pc33, trivial⟩) ⟨Try.f29, Try.func29, by kernel_rfl, by kernel_rfl⟩ fun x y h => w29 h

noncomputable def C6 : List AV → Option AV := specP (X := Int × TStructure × Int × Unit) fun x => laws_FnExactIsPrecise x.1 x.2.1 x.2.2.1
theorem C6_eq {aVars aS aCells} {y} (h : laws_FnExactIsPrecise aVars aS aCells = some y) : C6 [av .shr aVars, av .shr aS, av .shr aCells] = some (Res.res y) := specP_eq (X := Int × TStructure × Int × Unit) (F := fun x => laws_FnExactIsPrecise x.1 x.2.1 x.2.2.1) (x := (aVars, aS, aCells, ())) h
noncomputable def g6 : Cfg := { P := Try.prog, take := [], keep := [], gho := [], ctx := [(19, C19), (21, C21), (24, C24), (28, C28), (29, C29)] }
@[simp] theorem g6_P : g6.P = Try.prog := rfl
@[simp] theorem g6_t : g6.take = [] := rfl
@[simp] theorem g6_g : g6.gho = [] := rfl
@[simp] theorem g6_19 : lookN 19 g6.ctx = some C19 := rfl
@[simp] theorem g6_21 : lookN 21 g6.ctx = some C21 := rfl
@[simp] theorem g6_24 : lookN 24 g6.ctx = some C24 := rfl
@[simp] theorem g6_28 : lookN 28 g6.ctx = some C28 := rfl
@[simp] theorem g6_29 : lookN 29 g6.ctx = some C29 := rfl
set_option maxHeartbeats 4000000 in
set_option maxRecDepth 100000 in
theorem w6 {aVars aS aCells} {y} (hp : laws_FnExactIsPrecise aVars aS aCells = some y) : ∃ m, callo g6 0 6 [av .shr aVars, av .shr aS, av .shr aCells] mem0 = some (Res.res y, m) := by
  refine start_fn (Try.f6.body.getD .skip) [.tmp 6] rfl rfl Try.func6 (by kernel_rfl) (by kernel_rfl) (by simp [Try.ntmps6]) rfl ?_
  unfold laws_FnExactIsPrecise at hp
  obtain ⟨y_1, h_2, hp⟩ := bind_some hp
  have c_3 := C19_eq h_2
  simp at c_3
  simp [Try.f6, c_3]
  rcases cond_cases hp with ⟨h_4, hp⟩ | ⟨h_4, hp⟩
  · try simp at h_4
    cases hp
    simp [Goal, FnEnd, h_4]
  · try simp at h_4
    obtain ⟨y_5, h_6, hp⟩ := bind_some hp
    have c_7 := C21_eq h_6
    simp at c_7
    obtain ⟨y_8, h_9, hp⟩ := bind_some hp
    have c_10 := C28_eq h_9
    simp at c_10
    obtain ⟨y_11, h_12, hp⟩ := bind_some hp
    cases Option.some.inj (h_6.symm.trans h_12)
    obtain ⟨y_13, h_14, hp⟩ := bind_some hp
    have c_15 := C29_eq h_14
    simp at c_15
    try simp [h_4, c_7, c_10, c_7, c_15]
    rcases cond_cases hp with ⟨h_16, hp⟩ | ⟨h_16, hp⟩
    · try simp at h_16
      cases hp
      simp [Goal, FnEnd, h_4, h_16]
    · try simp at h_16
      obtain ⟨y_17, h_18, hp⟩ := bind_some hp
      cases Option.some.inj (h_6.symm.trans h_18)
      obtain ⟨y_19, h_20, hp⟩ := bind_some hp
      have c_21 := C24_eq h_20
      simp at c_21
      try simp [h_4, h_16, c_7, c_21]
      rcases cond_cases hp with ⟨h_22, hp⟩ | ⟨h_22, hp⟩
      · try simp at h_22
        cases hp
        simp [Goal, FnEnd, h_4, h_16, h_22]
      · try simp at h_22
        cases hp
        simp [Goal, FnEnd, h_4, h_16, h_22]
theorem pc6 : PC Try.prog 6 C6 := pc_of (g := g6) (ctxOK_of [(19, C19), (21, C21), (24, C24), (28, C28), (29, C29)] rfl ⟨pc19, pc21, pc24, pc28, pc29, trivial⟩) ⟨Try.f6, Try.func6, by kernel_rfl, by kernel_rfl⟩ fun x y h => w6 h
end Go.Proofs
