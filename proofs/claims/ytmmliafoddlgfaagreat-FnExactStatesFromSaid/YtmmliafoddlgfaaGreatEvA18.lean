import Derived.Test.YtmmliafoddlgfaaGreatEvA17
set_option linter.unusedSimpArgs false
set_option linter.unusedVariables false
set_option linter.unnecessarySimpa false
noncomputable section
set_option maxHeartbeats 4000000
set_option maxRecDepth 100000
namespace Go.Proofs
open Go.Ev
abbrev G117 (g : Cfg) : Prop := Has Tryz.prog g 117 Tryz.f117 [11, 12] [] [(120, C120)] []
theorem wI117 {g : Cfg} (G : G117 g) (G_118 : G118 g) (G_148 : G148 g) (G_119 : G119 g) {d : Nat} {mem : Mem} (hT : Tight d mem) {K_3 : Key} {s : TState} {from_ : Int} {edge : Int} {c0 : (List TMetState)} (hk_3 : K_3.1 = d) (hb_3 : mem K_3 = some [(.l .own c0.length (encL c0))]) {y} (hp : impl_explore_2 s from_ edge c0 = some y) : callo g d 117 [av .own s, av .own from_, av .own edge, .one (.ptr K_3 0)] (markMem true d mem) = some (.tu [], (upd mem K_3 (some [(.l .own y.length (encL y))]))) := by
 have gP := G.P; have gt := G.tk; have gr := G.ro; have gg := G.gh
 have i_118 := G_118.no
 have i_148 := G_148.no
 have i_119 := G_119.no
 have c_120 := G.cs (120, C120) (by simp)
 have hT2 : memKill (fun k => decide (d < k.1)) mem = mem := hT
 have hm0 : ∀ t, mem (d + 1, t) = none := fun t => hT.none (by simp)
 have nk_3 : ∀ t, (K_3 = (d + 1, t)) = False := fun t => by rw [eq_iff_iff, iff_false]; intro h; rw [h] at hk_3; exact absurd hk_3 (Nat.succ_ne_self d)
 have nq_3 : ∀ t, ((d + 1, t) = K_3) = False := fun t => (propext eq_comm).trans (nk_3 t)
 refine start_eff (Tryz.f117.body.getD .skip) [] G Tryz.func117 (by kernel_rfl) (by simp [Tryz.ntmps117]) rfl ?_
 unfold impl_explore_2 at hp
 obtain ⟨y_1, h_2, hp⟩ := zab hp
 simp [Tryz.f117, gP, gt, gr, gg, hm0, c_120, i_118, i_148, i_119, hb_3, nk_3, hk_3, nq_3, markMem]
 refine goal_call [av .bor c0, .one (.fn 119 [((d + 1, 4), 0)])] (Res.res y_1) (by simp [gP, gt, gr, gg, hm0, c_120, i_118, i_148, i_119, hb_3, nk_3, hk_3, nq_3, markMem]) (wI118 G_118 G_148 (by repeat (first | exact zaj _ | exact hT.up | exact hT | (simp only [true_and]; done) | refine Tight.upd ?_ (by simp) (by simp) | refine Tight.killB ?_)) (.inr rfl) (by simp) (clo1 (p := fun x0 => impl_explore_2_1 x0 s) fun d2 mem2 m0 x0 r2 hd2 ha2 hT2 hm0 hr2 => wI119 (mk_1 := .own) G_119 hT2 hm0 (show d + 1 ≤ d2 from hd2) ((ha2 _ (Nat.le_refl _)).trans (by simp [gP, gt, gr, gg, hm0, c_120, i_118, i_148, i_119, hb_3, nk_3, hk_3, nq_3, markMem])) hr2) h_2) ?_
 try simp [gP, gt, gr, gg, hm0, c_120, i_118, i_148, i_119, hb_3, nk_3, hk_3, nq_3, markMem]
 rcases zad hp with ⟨h_3, hp⟩ | ⟨h_3, hp⟩
 ·try simp at h_3
  cases hp
  simp [Goal, FnEndI, retR, rsrc, RSrc.val, nodupR, nodup, tupPart, gP, gt, gr, gg, hm0, c_120, i_118, i_148, i_119, hb_3, nk_3, hk_3, nq_3, markMem, h_3]
  all_goals (refine kill_back (AgreeX.fin ?_ (by simp [gP, gt, gr, gg, hm0, c_120, i_118, i_148, i_119, hb_3, nk_3, hk_3, nq_3, markMem, h_3])) (hT.upd (by omega) (by simp)); repeat (first | exact fun k hk hne => rfl | refine AgreeX.upd ?_ (by simp) | refine AgreeX.updK ?_))
 ·try simp at h_3
  obtain ⟨_, h_4, hp⟩ := zab hp
  have b_5 := room_ok h_4
  try simp at b_5
  cases hp
  simp [Goal, FnEndI, retR, rsrc, RSrc.val, nodupR, nodup, tupPart, gP, gt, gr, gg, hm0, c_120, i_118, i_148, i_119, hb_3, nk_3, hk_3, nq_3, markMem, h_3, b_5]
  all_goals (refine kill_back (AgreeX.fin ?_ (by simp [gP, gt, gr, gg, hm0, c_120, i_118, i_148, i_119, hb_3, nk_3, hk_3, nq_3, markMem, h_3, b_5])) (hT.upd (by omega) (by simp)); repeat (first | exact fun k hk hne => rfl | refine AgreeX.upd ?_ (by simp) | refine AgreeX.updK ?_))

def C69 : List AV → Option AV := specP (X := TProgram × (List THeap) × Unit) fun x => impl_explore x.1 x.2.1
theorem C69_eq {p_ start} {y} (h : impl_explore p_ start = some y) : C69 [av .shr p_, av .shr start] = some (Res.res y) := zaf (x := (p_, start, ())) h
def g69 : Cfg := { P := Tryz.prog, take := [(69, 61), (69, 88), (69, 94), (69, 1000094), (117, 11), (117, 12)], keep := [((69, 6), { hd := [2, 6, 7, 25, 26, 27], bx := [9], ex := [2, 6, 7], rt := [4, 5] }), ((69, 11), { hd := [2, 6, 7, 10], bx := [13], ex := [6], rt := [4, 5] }), ((69, 14), { hd := [2, 6, 7, 10, 55, 56, 57], bx := [13], ex := [2, 6, 7, 10], rt := [4, 5] }), ((147, 2), { hd := [0, 1, 7, 8], bx := [], ex := [], rt := [4] }), ((148, 2), { hd := [0, 1, 7, 8], bx := [], ex := [], rt := [4] })], gho := [], ctx := [(53, C53), (54, C54), (55, C55), (57, C57), (111, C111), (120, C120)], away := [(69, 83, 13), (69, 87, 13)], give := [(69, 35), (69, 92)], deep := [117] }
@[simp] theorem g69_s : g69.P = Tryz.prog ∧ g69.ctx = [(53, C53), (54, C54), (55, C55), (57, C57), (111, C111), (120, C120)] ∧ g69.take = [(69, 61), (69, 88), (69, 94), (69, 1000094), (117, 11), (117, 12)] ∧ g69.gho = [] ∧ g69.ro = [] ∧ g69.away = [(69, 83, 13), (69, 87, 13)] ∧ g69.give = [(69, 35), (69, 92)] ∧ g69.octx = [] ∧ g69.deep = [117] := by simp [g69]
@[simp] theorem g69_wa (d f dst key) : awayB g69 d f dst key = awayL [(69, 83, 13), (69, 87, 13)] d f dst key := rfl
@[simp] theorem g69_wl (d f a key) : lateB g69 d f a key = lateL [(69, 83, 13), (69, 87, 13)] d f a key := rfl
theorem w69 {p_ start} {y} (hp : impl_explore p_ start = some y) : ∃ m, callo g69 0 69 [av .shr p_, av .shr start] mem0 = some (Res.res y, m) := by
 have G_115 : G115 g69 := ⟨rfl, by kernel_rfl, rfl, fun t => by simp, noAway (fun t => by simp) (by simp) (fun t => by simp), by simp [lookN], fun i => by simp [lookK], by simp [g69, lookK], by simp⟩
 have G_147 : G147 g69 := ⟨rfl, by kernel_rfl, rfl, fun t => by simp, noAway (fun t => by simp) (by simp) (fun t => by simp), by simp [lookN], fun i => by simp [lookK], by simp [g69, lookK], by simp⟩
 have G_116 : G116 g69 := ⟨rfl, by kernel_rfl, rfl, fun t => by simp, noAway (fun t => by simp) (by simp) (fun t => by simp), by simp [lookN], fun i => by simp [lookK], by simp [g69, lookK], by simp⟩
 have G_117 : G117 g69 := ⟨rfl, by kernel_rfl, rfl, fun t => by simp, noAway (fun t => by simp) (by simp) (fun t => by simp), by simp [lookN], fun i => by simp [lookK], by simp [g69, lookK], by simp⟩
 have G_118 : G118 g69 := ⟨rfl, by kernel_rfl, rfl, fun t => by simp, noAway (fun t => by simp) (by simp) (fun t => by simp), by simp [lookN], fun i => by simp [lookK], by simp [g69, lookK], by simp⟩
 have G_148 : G148 g69 := ⟨rfl, by kernel_rfl, rfl, fun t => by simp, noAway (fun t => by simp) (by simp) (fun t => by simp), by simp [lookN], fun i => by simp [lookK], by simp [g69, lookK], by simp⟩
 have G_119 : G119 g69 := ⟨rfl, by kernel_rfl, rfl, fun t => by simp, noAway (fun t => by simp) (by simp) (fun t => by simp), by simp [lookN], fun i => by simp [lookK], by simp [g69, lookK], by simp⟩
 refine st0 [.tmp 4, .tmp 5] Tryz.func69 ?_
 unfold impl_explore at hp
 obtain ⟨y_1, h_2, hp⟩ := zab hp
 have c_3 := C53_eq h_2
 simp at c_3
 simp [Tryz.f69, c_3]
 rcases zad hp with ⟨h_4, hp⟩ | ⟨h_4, hp⟩
 ·try simp at h_4
  obtain ⟨y_5, h_6, hp⟩ := zab hp
  try simp [h_4]
  refine goal_call [av .shr start, .one (.fn 116 [((1, 2), 0)])] (Res.res y_5) (by simp [h_4]) (wI115 G_115 G_147 (by repeat (first | exact zaj _ | exact hT.up | exact hT | (simp only [true_and]; done) | refine Tight.upd ?_ (by simp) (by simp) | refine Tight.killB ?_)) (.inl rfl) (by simp) (clo1 (p := fun x0 => impl_explore_1 x0 p_) fun d2 mem2 m0 x0 r2 hd2 ha2 hT2 hm0 hr2 => wI116 (mk_1 := .shr) G_116 hT2 hm0 (show 1 ≤ d2 from hd2) ((ha2 _ (Nat.le_refl _)).trans (by simp [h_4])) hr2) h_6) ?_
  try simp [h_4]
  rcases zad hp with ⟨h_7, hp⟩ | ⟨h_7, hp⟩
  ·try simp at h_7
   cases hp
   simp [Goal, FnEnd, retR, rsrc, RSrc.val, nodupR, nodup, tupPart, h_4, h_7]
  ·try simp at h_7
   try simp [h_4, h_7]
   obtain ⟨r_30, h_31, hp⟩ := zab hp
   obtain ⟨I_10, I_10_⟩ := exV fun (s_8 : Int × (List TMetState)) (σ : St) => (σ.env 2 = uP (1, 2) ∧ σ.env 6 = uP (1, 6) ∧ σ.env 7 = .one (.fn 117 [((1, 6), 0)]) ∧ σ.env 25 = uL .shr start ∧ σ.env 26 = uI (start.length : Int) ∧ σ.env 27 = uI s_8.1 ∧ σ.mem (1, 2) = some [(.l .shr p_.vars.length (encL p_.vars)), (.s (.int .i64 p_.points)), (.l .shr p_.edges.length (encL p_.edges))] ∧ σ.mem (1, 6) = some [(.l .own s_8.2.length (encL s_8.2))]) ∧ Tight (1) σ.mem ∧ NoBox [(1, 2), (1, 6)] σ.mem
   obtain ⟨X_11, X_11_⟩ := exV fun (r_30 : (List TMetState)) (out : Out) => ∃ σ : St, out = .exit 0 σ ∧ (σ.env 2 = uP (1, 2) ∧ σ.env 6 = uP (1, 6) ∧ σ.env 7 = .one (.fn 117 [((1, 6), 0)]) ∧ σ.mem (1, 2) = some [(.l .shr p_.vars.length (encL p_.vars)), (.s (.int .i64 p_.points)), (.l .shr p_.edges.length (encL p_.edges))] ∧ σ.mem (1, 6) = some [(.l .own r_30.length (encL r_30))]) ∧ Tight (1) σ.mem ∧ NoBox [(1, 2), (1, 6)] σ.mem
   refine loopP ({ hd := [2, 6, 7, 25, 26, 27], bx := [9], ex := [2, 6, 7], rt := [4, 5] }) I_10 X_11 h_31 (by exact rfl) ?_ ?_ ?_
   ·rw [I_10_]
    exact ⟨by simp [zac, zaa, h_4, h_7], (by repeat (first | exact zaj _ | exact hT.up | exact hT | refine Tight.restrict ?_ | refine Tight.upd ?_ (by simp) (by simp) | refine Tight.killB ?_)), NoBox.restrict (by intro k hk hb; simp at hk hb; simp [hk, hb, h_4, h_7])⟩
   ·intro s_8 σ_12 a_9 hI hp
    rw [I_10_] at hI
    obtain ⟨q_15, ht_13, hn_14⟩ := hI
    try simp [h_4, h_7, q_15]
    rcases zad hp with ⟨h_16, hp⟩ | ⟨h_16, hp⟩
    ·try simp at h_16
     obtain ⟨e_17, h_18, hp⟩ := zab hp
     have b_19 := at_lo h_18
     have b_20 := at_hi h_18
     try simp at b_19 b_20
     have c_21 := seg_at' h_18 0 2 (by decide) (ds := [.sl e_17.vars.length (encL e_17.vars), .sl e_17.next.length (encL e_17.next)]) rfl
     try simp at c_21
     have n_22 := hn_14 (1, 9) (by simp)
     obtain ⟨y_23, h_24, hp⟩ := zab hp
     have c_25 := C55_eq h_24
     simp at c_25
     obtain ⟨y_28, h_29, hp⟩ := zab hp
     try simp [h_4, h_7, q_15, h_16, b_19, b_20, c_21, n_22, c_25]
     refine goal_giveE [av .own (⟨0, y_23⟩ : TState), av .own (-1), av .own (-1), .one (.ptr (1, 6) 0)] (.tu []) (by simp [h_4, h_7, q_15, h_16]) (wI117 (K_3 := (1, 6)) G_117 G_118 G_148 G_119 (by repeat (first | exact ht_13 | exact zaj _ | exact hT.up | exact hT | (simp only [q_15]; done) | refine Tight.upd ?_ (by simp) (by simp) | refine Tight.killB ?_)) (by rfl) (by simp [h_4, h_7, q_15, h_16]) h_29) ?_
     cases hp
     try simp [h_4, h_7, q_15, h_16]
     refine zai ?_
     rw [I_10_]
     exact ⟨by simp [zac, zaa, h_4, h_7, q_15, h_16], (by repeat (first | exact ht_13 | exact zaj _ | exact hT.up | exact hT | refine Tight.restrict ?_ | refine Tight.upd ?_ (by simp) (by simp) | refine Tight.killB ?_)), NoBox.restrict (by intro k hk hb; simp at hk hb; simp [hk, hb, h_4, h_7, q_15, h_16, hn_14 k (by simp [hk, hb])])⟩
    ·try simp at h_16
     cases hp
     try simp [h_4, h_7, q_15, h_16]
     refine zal ?_
     rw [X_11_]
     exact ⟨_, rfl, by simp [zac, zaa, h_4, h_7, q_15, h_16], (by repeat (first | exact ht_13 | exact zaj _ | exact hT.up | exact hT | refine Tight.restrict ?_ | refine Tight.upd ?_ (by simp) (by simp) | refine Tight.killB ?_)), NoBox.restrict (by intro k hk hb; simp at hk hb; simp [hk, hb, h_4, h_7, q_15, h_16, hn_14 k (by simp [hk, hb])])⟩
   ·intro out hX
    rw [X_11_] at hX
    obtain ⟨σ_32, rfl, q_35, ht_33, hn_34⟩ := hX
    try simp [h_4, h_7, q_35]
    obtain ⟨r_98, h_99, hp⟩ := zab hp
    obtain ⟨I_38, I_38_⟩ := exV fun (s_36 : Int × (List TMetState)) (σ : St) => (σ.env 2 = uP (1, 2) ∧ σ.env 6 = uP (1, 6) ∧ σ.env 7 = .one (.fn 117 [((1, 6), 0)]) ∧ σ.env 10 = uI s_36.1 ∧ σ.mem (1, 2) = some [(.l .shr p_.vars.length (encL p_.vars)), (.s (.int .i64 p_.points)), (.l .shr p_.edges.length (encL p_.edges))] ∧ σ.mem (1, 6) = some [(.l .own s_36.2.length (encL s_36.2))]) ∧ Tight (1) σ.mem ∧ NoBox [(1, 2), (1, 6)] σ.mem
    obtain ⟨X_39, X_39_⟩ := exV fun (r_98 : (List TMetState)) (out : Out) => ∃ σ : St, out = .exit 2 σ ∧ (σ.env 6 = uP (1, 6) ∧ σ.mem (1, 2) = some [(.l .shr p_.vars.length (encL p_.vars)), (.s (.int .i64 p_.points)), (.l .shr p_.edges.length (encL p_.edges))] ∧ σ.mem (1, 6) = some [(.l .own r_98.length (encL r_98))]) ∧ Tight (1) σ.mem ∧ NoBox [(1, 2), (1, 6)] σ.mem
    refine loopP ({ hd := [2, 6, 7, 10], bx := [13], ex := [6], rt := [4, 5] }) I_38 X_39 h_99 (by exact rfl) ?_ ?_ ?_
    ·rw [I_38_]
     exact ⟨by simp [zac, zaa, h_4, h_7, q_35], (by repeat (first | exact ht_33 | exact zaj _ | exact hT.up | exact hT | refine Tight.restrict ?_ | refine Tight.upd ?_ (by simp) (by simp) | refine Tight.killB ?_)), NoBox.restrict (by intro k hk hb; simp at hk hb; simp [hk, hb, h_4, h_7, q_35, hn_34 k (by simp [hk, hb])])⟩
    ·intro s_36 σ_40 a_37 hI hp
     rw [I_38_] at hI
     obtain ⟨q_43, ht_41, hn_42⟩ := hI
     try simp [h_4, h_7, q_43]
     rcases zad hp with ⟨h_44, hp⟩ | ⟨h_44, hp⟩
     ·try simp at h_44
      try simp [h_4, h_7, q_43, h_44]
      rcases zad hp with ⟨h_45, hp⟩ | ⟨h_45, hp⟩
      ·try simp at h_45
       obtain ⟨e_46, h_47, hp⟩ := zab hp
       have b_48 := at_lo h_47
       have b_49 := at_hi h_47
       try simp at b_48 b_49
       have c_50 := seg_at' h_47 0 1 (by decide) (ds := [.sc (.int .i64 e_46.state.point)]) rfl
       try simp at c_50
       obtain ⟨y_51, h_52, hp⟩ := zab hp
       have c_53 := C111_eq h_52
       simp at c_53
       try simp [h_4, h_7, q_43, h_44, h_45, b_48, b_49, c_50, c_53]
       obtain ⟨r_92, h_93, hp⟩ := zab hp
       obtain ⟨I_56, I_56_⟩ := exV fun (s_54 : Int × (List TMetState)) (σ : St) => (σ.env 2 = uP (1, 2) ∧ σ.env 6 = uP (1, 6) ∧ σ.env 7 = .one (.fn 117 [((1, 6), 0)]) ∧ σ.env 10 = uI s_36.1 ∧ σ.env 55 = uL .own y_51 ∧ σ.env 56 = uI (y_51.length : Int) ∧ σ.env 57 = uI s_54.1 ∧ σ.mem (1, 2) = some [(.l .shr p_.vars.length (encL p_.vars)), (.s (.int .i64 p_.points)), (.l .shr p_.edges.length (encL p_.edges))] ∧ σ.mem (1, 6) = some [(.l .own s_54.2.length (encL s_54.2))]) ∧ Tight (1) σ.mem ∧ NoBox [(1, 2), (1, 6)] σ.mem
       obtain ⟨X_57, X_57_⟩ := exV fun (r_92 : (List TMetState)) (out : Out) => ∃ σ : St, out = .exit 4 σ ∧ (σ.env 2 = uP (1, 2) ∧ σ.env 6 = uP (1, 6) ∧ σ.env 7 = .one (.fn 117 [((1, 6), 0)]) ∧ σ.env 10 = uI s_36.1 ∧ σ.mem (1, 2) = some [(.l .shr p_.vars.length (encL p_.vars)), (.s (.int .i64 p_.points)), (.l .shr p_.edges.length (encL p_.edges))] ∧ σ.mem (1, 6) = some [(.l .own r_92.length (encL r_92))]) ∧ Tight (1) σ.mem ∧ NoBox [(1, 2), (1, 6)] σ.mem
       refine loopP ({ hd := [2, 6, 7, 10, 55, 56, 57], bx := [13], ex := [2, 6, 7, 10], rt := [4, 5] }) I_56 X_57 h_93 (by exact rfl) ?_ ?_ ?_
       ·rw [I_56_]
        exact ⟨by simp [zac, zaa, h_4, h_7, q_43, h_44, h_45], (by repeat (first | exact ht_41 | exact zaj _ | exact hT.up | exact hT | refine Tight.restrict ?_ | refine Tight.upd ?_ (by simp) (by simp) | refine Tight.killB ?_)), NoBox.restrict (by intro k hk hb; simp at hk hb; simp [hk, hb, h_4, h_7, q_43, h_44, h_45, hn_42 k (by simp [hk, hb])])⟩
       ·intro s_54 σ_58 a_55 hI hp
        rw [I_56_] at hI
        obtain ⟨q_61, ht_59, hn_60⟩ := hI
        try simp [h_4, h_7, h_44, h_45, q_61]
        rcases zad hp with ⟨h_62, hp⟩ | ⟨h_62, hp⟩
        ·try simp at h_62
         obtain ⟨e_63, h_64, hp⟩ := zab hp
         have b_65 := at_lo h_64
         have b_66 := at_hi h_64
         try simp at b_65 b_66
         have c_67 := seg_at' h_64 0 1 (by decide) (ds := [.sc (.int .i64 e_63)]) rfl
         try simp at c_67
         obtain ⟨e_68, h_69, hp⟩ := zab hp
         have b_70 := at_lo h_69
         have b_71 := at_hi h_69
         try simp at b_70 b_71
         have c_72 := seg_at' h_69 2 3 (by decide) (ds := [.sc (.int .i64 e_68.stmt.kind), .sc (.string e_68.stmt.a), .sc (.string e_68.stmt.b)]) rfl
         try simp at c_72
         obtain ⟨e_73, h_74, hp⟩ := zab hp
         have b_75 := at_lo h_74
         have b_76 := at_hi h_74
         try simp at b_75 b_76
         have c_77 := seg_at' h_74 1 2 (by decide) (ds := [.sl e_73.state.heap.vars.length (encL e_73.state.heap.vars), .sl e_73.state.heap.next.length (encL e_73.state.heap.next)]) rfl
         try simp at c_77
         obtain ⟨y_78, h_79, hp⟩ := zab hp
         have c_80 := C57_eq h_79
         simp at c_80
         have n_81 := hn_60 (1, 13) (by simp)
         try simp [h_4, h_7, h_44, h_45, q_61, h_62, b_65, b_66, c_67, b_70, b_71, c_72, b_75, b_76, c_77, c_80, n_81]
         rcases zad hp with ⟨h_82, hp⟩ | ⟨h_82, hp⟩
         ·try simp at h_82
          obtain ⟨e_83, h_84, hp⟩ := zab hp
          cases Option.some.inj (h_69.symm.trans h_84)
          have b_85 := at_lo h_69
          have b_86 := at_hi h_69
          try simp at b_85 b_86
          have c_87 := seg_at' h_69 1 1 (by decide) (ds := [.sc (.int .i64 e_68.to_)]) rfl
          try simp at c_87
          obtain ⟨y_90, h_91, hp⟩ := zab hp
          try simp [h_4, h_7, h_44, h_45, q_61, h_62, h_82, b_85, b_86, c_87]
          refine goal_giveE [av .own (⟨e_68.to_, y_78.1⟩ : TState), av .own s_36.1, av .own e_63, .one (.ptr (1, 6) 0)] (.tu []) (by simp [h_4, h_7, h_44, h_45, q_61, h_62, h_82]) (wI117 (K_3 := (1, 6)) G_117 G_118 G_148 G_119 (by repeat (first | exact ht_59 | exact zaj _ | exact hT.up | exact hT | (simp only [q_61]; done) | refine Tight.upd ?_ (by simp) (by simp) | refine Tight.killB ?_)) (by rfl) (by simp [h_4, h_7, h_44, h_45, q_61, h_62, h_82]) h_91) ?_
          cases hp
          try simp [h_4, h_7, h_44, h_45, q_61, h_62, h_82]
          refine zai ?_
          rw [I_56_]
          exact ⟨by simp [zac, zaa, h_4, h_7, h_44, h_45, q_61, h_62, h_82], (by repeat (first | exact ht_59 | exact zaj _ | exact hT.up | exact hT | refine Tight.restrict ?_ | refine Tight.upd ?_ (by simp) (by simp) | refine Tight.killB ?_)), NoBox.restrict (by intro k hk hb; simp at hk hb; simp [hk, hb, h_4, h_7, h_44, h_45, q_61, h_62, h_82, hn_60 k (by simp [hk, hb])])⟩
         ·try simp at h_82
          cases hp
          try simp [h_4, h_7, h_44, h_45, q_61, h_62, h_82]
          refine zai ?_
          rw [I_56_]
          exact ⟨by simp [zac, zaa, h_4, h_7, h_44, h_45, q_61, h_62, h_82], (by repeat (first | exact ht_59 | exact zaj _ | exact hT.up | exact hT | refine Tight.restrict ?_ | refine Tight.upd ?_ (by simp) (by simp) | refine Tight.killB ?_)), NoBox.restrict (by intro k hk hb; simp at hk hb; simp [hk, hb, h_4, h_7, h_44, h_45, q_61, h_62, h_82, hn_60 k (by simp [hk, hb])])⟩
        ·try simp at h_62
         cases hp
         try simp [h_4, h_7, h_44, h_45, q_61, h_62]
         refine zal ?_
         rw [X_57_]
         exact ⟨_, rfl, by simp [zac, zaa, h_4, h_7, h_44, h_45, q_61, h_62], (by repeat (first | exact ht_59 | exact zaj _ | exact hT.up | exact hT | refine Tight.restrict ?_ | refine Tight.upd ?_ (by simp) (by simp) | refine Tight.killB ?_)), NoBox.restrict (by intro k hk hb; simp at hk hb; simp [hk, hb, h_4, h_7, h_44, h_45, q_61, h_62, hn_60 k (by simp [hk, hb])])⟩
       ·intro out hX
        rw [X_57_] at hX
        obtain ⟨σ_94, rfl, q_97, ht_95, hn_96⟩ := hX
        cases hp
        try simp [h_4, h_7, h_44, h_45, q_97]
        refine zai ?_
        rw [I_38_]
        exact ⟨by simp [zac, zaa, h_4, h_7, h_44, h_45, q_97], (by repeat (first | exact ht_95 | exact zaj _ | exact hT.up | exact hT | refine Tight.restrict ?_ | refine Tight.upd ?_ (by simp) (by simp) | refine Tight.killB ?_)), NoBox.restrict (by intro k hk hb; simp at hk hb; simp [hk, hb, h_4, h_7, h_44, h_45, q_97, hn_96 k (by simp [hk, hb])])⟩
      ·try simp at h_45
       cases hp
       try simp [h_4, h_7, q_43, h_44, h_45]
       refine zal ?_
       rw [X_39_]
       exact ⟨_, rfl, by simp [zac, zaa, h_4, h_7, q_43, h_44, h_45], (by repeat (first | exact ht_41 | exact zaj _ | exact hT.up | exact hT | refine Tight.restrict ?_ | refine Tight.upd ?_ (by simp) (by simp) | refine Tight.killB ?_)), NoBox.restrict (by intro k hk hb; simp at hk hb; simp [hk, hb, h_4, h_7, q_43, h_44, h_45, hn_42 k (by simp [hk, hb])])⟩
     ·try simp at h_44
      cases hp
      try simp [h_4, h_7, q_43, h_44]
      refine zal ?_
      rw [X_39_]
      exact ⟨_, rfl, by simp [zac, zaa, h_4, h_7, q_43, h_44], (by repeat (first | exact ht_41 | exact zaj _ | exact hT.up | exact hT | refine Tight.restrict ?_ | refine Tight.upd ?_ (by simp) (by simp) | refine Tight.killB ?_)), NoBox.restrict (by intro k hk hb; simp at hk hb; simp [hk, hb, h_4, h_7, q_43, h_44, hn_42 k (by simp [hk, hb])])⟩
    ·intro out hX
     rw [X_39_] at hX
     obtain ⟨σ_100, rfl, q_103, ht_101, hn_102⟩ := hX
     cases hp
     simp [Goal, FnEnd, retR, rsrc, RSrc.val, nodupR, nodup, tupPart, h_4, h_7, q_103]
 ·try simp at h_4
  cases hp
  simp [Goal, FnEnd, retR, rsrc, RSrc.val, nodupR, nodup, tupPart, h_4]
theorem pc69 : PC Tryz.prog 69 C69 := pc_of (g := g69) (zah _ g69_s.2.1 ⟨pc53, pc54, pc55, pc57, pc111, pc120, trivial⟩) (ent Tryz.func69) fun x y h => w69 h

def C30 : List AV → Option AV := specP (X := TProgram × (List THeap) × Unit) fun x => impl_StatesFrom x.1 x.2.1
theorem C30_eq {p_ start} {y} (h : impl_StatesFrom p_ start = some y) : C30 [av .shr p_, av .shr start] = some (Res.res y) := zaf (x := (p_, start, ())) h
def g30 : Cfg := { P := Tryz.prog, take := [(30, 11), (30, 25), (30, 26), (30, 28), (30, 32)], keep := [((30, 6), { hd := [8, 20, 21, 22], bx := [10], ex := [8], rt := [4, 5] })], gho := [((30, 2000001), [.thaw (.sl 6 0) 6 5])], ctx := [(69, C69)] }
@[simp] theorem g30_s : g30.P = Tryz.prog ∧ g30.ctx = [(69, C69)] ∧ g30.take = [(30, 11), (30, 25), (30, 26), (30, 28), (30, 32)] ∧ g30.gho = [((30, 2000001), [.thaw (.sl 6 0) 6 5])] ∧ g30.ro = [] ∧ g30.away = [] ∧ g30.give = [] ∧ g30.octx = [] := by simp [g30]
theorem w30 {p_ start} {y} (hp : impl_StatesFrom p_ start = some y) : ∃ m, callo g30 0 30 [av .shr p_, av .shr start] mem0 = some (Res.res y, m) := by
 refine st0 [.tmp 4, .tmp 5] Tryz.func30 ?_
 unfold impl_StatesFrom at hp
 obtain ⟨y_1, h_2, hp⟩ := zab hp
 have c_3 := C69_eq h_2
 simp at c_3
 simp [Tryz.f30, c_3]
 try simp
 rcases zad hp with ⟨h_4, hp⟩ | ⟨h_4, hp⟩
 ·try simp at h_4
  try simp [h_4]
  obtain ⟨r_24, h_25, hp⟩ := zab hp
  obtain ⟨I_7, I_7_⟩ := exV fun (s_5 : (List TState) × Int × Int) (σ : St) => (σ.env 8 = uL .own s_5.1 ∧ σ.env 20 = .one (.bs (1, 6) y_1.1.length 5) ∧ σ.env 21 = uI (y_1.1.length : Int) ∧ σ.env 22 = uI s_5.2.1 ∧ σ.mem (1, 2) = some [(.l .shr p_.vars.length (encL p_.vars)), (.s (.int .i64 p_.points)), (.l .shr p_.edges.length (encL p_.edges))] ∧ σ.mem (1, 6) = some (deadC y_1.1 s_5.2.2)) ∧ NoBox [(1, 2), (1, 6)] σ.mem
  obtain ⟨X_8, X_8_⟩ := exV fun (r_24 : (List TState) × Int) (out : Out) => ∃ σ : St, out = .exit 0 σ ∧ (σ.env 8 = uL .own r_24.1 ∧ σ.mem (1, 2) = some [(.l .shr p_.vars.length (encL p_.vars)), (.s (.int .i64 p_.points)), (.l .shr p_.edges.length (encL p_.edges))] ∧ σ.mem (1, 6) = some (deadC y_1.1 r_24.2)) ∧ NoBox [(1, 2), (1, 6)] σ.mem
  refine loopP ({ hd := [8, 20, 21, 22], bx := [10], ex := [8], rt := [4, 5] }) I_7 X_8 h_25 (by exact rfl) ?_ ?_ ?_
  ·rw [I_7_]
   exact ⟨by simp [zac, zaa, h_4], NoBox.restrict (by intro k hk hb; simp at hk hb; simp [hk, hb, h_4])⟩
  ·intro s_5 σ_9 a_6 hI hp
   rw [I_7_] at hI
   obtain ⟨q_11, hn_10⟩ := hI
   try simp [h_4, q_11]
   rcases zad hp with ⟨h_12, hp⟩ | ⟨h_12, hp⟩
   ·try simp at h_12
    obtain ⟨e_13, h_14, hp⟩ := zab hp
    have b_15 := at_lo h_14
    have b_16 := at_hi h_14
    try simp at b_15 b_16
    obtain ⟨_, h_17, hp⟩ := zab hp
    have h_18 := takeI_eq h_17
    have c_19 := seg_dead h_14 h_18 0 5 rfl rfl (cs := [(.s (.int .i64 e_13.state.point)), (.l .own e_13.state.heap.vars.length (encL e_13.state.heap.vars)), (.l .own e_13.state.heap.next.length (encL e_13.state.heap.next)), (.s (.int .i64 e_13.from_)), (.s (.int .i64 e_13.edge))]) rfl
    try simp at c_19
    have c_20 := splice_dead h_14 h_18 0 rfl (cs := [C.dead, C.dead, C.dead, C.dead, C.dead]) rfl
    try simp at c_20
    have n_21 := hn_10 (1, 10) (by simp)
    obtain ⟨_, h_22, hp⟩ := zab hp
    have b_23 := room_ok h_22
    try simp at b_23
    cases hp
    try simp [h_4, q_11, h_12, b_15, b_16, c_19, c_20, n_21, b_23]
    refine zai ?_
    rw [I_7_]
    exact ⟨by simp [zac, zaa, h_4, q_11, h_12, b_15, b_16, c_19, c_20, n_21, b_23], NoBox.restrict (by intro k hk hb; simp at hk hb; simp [hk, hb, h_4, q_11, h_12, b_15, b_16, c_19, c_20, n_21, b_23, hn_10 k (by simp [hk, hb])])⟩
   ·try simp at h_12
    cases hp
    try simp [h_4, q_11, h_12]
    refine zal ?_
    rw [X_8_]
    exact ⟨_, rfl, by simp [zac, zaa, h_4, q_11, h_12], NoBox.restrict (by intro k hk hb; simp at hk hb; simp [hk, hb, h_4, q_11, h_12, hn_10 k (by simp [hk, hb])])⟩
  ·intro out hX
   rw [X_8_] at hX
   obtain ⟨σ_26, rfl, q_28, hn_27⟩ := hX
   cases hp
   simp [Goal, FnEnd, retR, rsrc, RSrc.val, nodupR, nodup, tupPart, h_4, q_28]
 ·try simp at h_4
  cases hp
  simp [Goal, FnEnd, retR, rsrc, RSrc.val, nodupR, nodup, tupPart, h_4]
theorem pc30 : PC Tryz.prog 30 C30 := pc_of (g := g30) (zah _ g30_s.2.1 ⟨pc69, trivial⟩) (ent Tryz.func30) fun x y h => w30 h

def C18 : List AV → Option AV := specP (X := (List Int) × (List Int) × Unit) fun x => laws_eqIntS x.1 x.2.1
theorem C18_eq {a_ b_} {y} (h : laws_eqIntS a_ b_ = some y) : C18 [av .shr a_, av .shr b_] = some (Res.res y) := zaf (x := (a_, b_, ())) h
def g18 : Cfg := { P := Tryz.prog, take := [], keep := [((18, 4), { hd := [0, 1, 5], bx := [], ex := [], rt := [4] })], gho := [], ctx := [] }
@[simp] theorem g18_s : g18.P = Tryz.prog ∧ g18.ctx = [] ∧ Pl0 g18 := by simp [g18]
theorem w18 {a_ b_} {y} (hp : laws_eqIntS a_ b_ = some y) : ∃ m, callo g18 0 18 [av .shr a_, av .shr b_] mem0 = some (Res.res y, m) := by
 refine st0 [.tmp 4] Tryz.func18 ?_
 unfold laws_eqIntS at hp
 simp [Tryz.f18]
 rcases zad hp with ⟨h_1, hp⟩ | ⟨h_1, hp⟩
 ·try simp at h_1
  cases hp
  simp [Goal, FnEnd, h_1]
 ·try simp at h_1
  try simp [h_1]
  obtain ⟨r_21, h_22, hp⟩ := zab hp
  obtain ⟨I_4, I_4_⟩ := exV fun (s_2 : Int) (σ : St) => (σ.env 0 = uL .shr a_ ∧ σ.env 1 = uL .shr b_ ∧ σ.env 5 = uI s_2) ∧ σ.mem = mem0
  obtain ⟨X_5, X_5_⟩ := exV fun (r_21 : (Unit) ⊕ (Unit)) (out : Out) => Sum.elim (fun r_21 => ∃ σ : St, out = .ret σ ∧ σ.env 4 = uB false ∧ σ.mem = mem0) (fun r_21 => ∃ σ : St, out = .exit 0 σ ∧ σ.mem = mem0) r_21
  refine loopP ({ hd := [0, 1, 5], bx := [], ex := [], rt := [4] }) I_4 X_5 h_22 (by exact rfl) ?_ ?_ ?_
  ·rw [I_4_]
   exact ⟨by simp [zac, zaa, h_1], by simp [zaa, h_1]⟩
  ·intro s_2 σ_6 a_3 hI hp
   rw [I_4_] at hI
   obtain ⟨q_8, q_7⟩ := hI
   try simp [h_1, q_8, q_7]
   rcases zad hp with ⟨h_9, hp⟩ | ⟨h_9, hp⟩
   ·try simp at h_9
    obtain ⟨e_10, h_11, hp⟩ := zab hp
    have b_12 := at_lo h_11
    have b_13 := at_hi h_11
    try simp at b_12 b_13
    have c_14 := seg_at' h_11 0 1 (by decide) (ds := [.sc (.int .i64 e_10)]) rfl
    try simp at c_14
    obtain ⟨e_15, h_16, hp⟩ := zab hp
    have b_17 := at_lo h_16
    have b_18 := at_hi h_16
    try simp at b_17 b_18
    have c_19 := seg_at' h_16 0 1 (by decide) (ds := [.sc (.int .i64 e_15)]) rfl
    try simp at c_19
    try simp [h_1, q_8, q_7, h_9, b_12, b_13, c_14, b_17, b_18, c_19]
    rcases zad hp with ⟨h_20, hp⟩ | ⟨h_20, hp⟩
    ·try simp at h_20
     cases hp
     try simp [h_1, q_8, q_7, h_9, h_20]
     refine zan ?_
     rw [X_5_]
     exact ⟨_, rfl, by simp [zac, zaa, h_1, q_8, q_7, h_9, h_20], by simp [zaa, h_1, q_8, q_7, h_9, h_20]⟩
    ·try simp at h_20
     cases hp
     try simp [h_1, q_8, q_7, h_9, h_20]
     refine zai ?_
     rw [I_4_]
     exact ⟨by simp [zac, zaa, h_1, q_8, q_7, h_9, h_20], by simp [zaa, h_1, q_8, q_7, h_9, h_20]⟩
   ·try simp at h_9
    cases hp
    try simp [h_1, q_8, q_7, h_9]
    refine zal ?_
    rw [X_5_]
    exact ⟨_, rfl, by simp [zaa, h_1, q_8, q_7, h_9]⟩
  ·intro out hX
   rw [X_5_] at hX
   rcases r_21 with r_21 | r_21
   ·simp only [Sum.elim_inl, Sum.elim_inr] at hX hp
    obtain ⟨σ_23, rfl, q_25, q_24⟩ := hX
    cases hp
    simp [Goal, FnEnd, h_1, q_25, q_24]
   ·simp only [Sum.elim_inl, Sum.elim_inr] at hX hp
    obtain ⟨σ_26, rfl, q_27⟩ := hX
    cases hp
    simp [Goal, FnEnd, h_1, q_27]
theorem pc18 : PC Tryz.prog 18 C18 := pc_of (g := g18) (zah [] rfl trivial) (ent Tryz.func18) fun x y h => w18 h

def C17 : List AV → Option AV := specP (X := THeap × THeap × Unit) fun x => laws_eqHeap x.1 x.2.1
theorem C17_eq {a_ b_} {y} (h : laws_eqHeap a_ b_ = some y) : C17 [av .shr a_, av .shr b_] = some (Res.res y) := zaf (x := (a_, b_, ())) h
def g17 : Cfg := { P := Tryz.prog, take := [], keep := [], gho := [], ctx := [(18, C18)] }
@[simp] theorem g17_s : g17.P = Tryz.prog ∧ g17.ctx = [(18, C18)] ∧ Pl0 g17 := by simp [g17]
theorem w17 {a_ b_} {y} (hp : laws_eqHeap a_ b_ = some y) : ∃ m, callo g17 0 17 [av .shr a_, av .shr b_] mem0 = some (Res.res y, m) := by
 refine st0 [.tmp 4] Tryz.func17 ?_
 unfold laws_eqHeap at hp
 obtain ⟨y_1, h_2, hp⟩ := zab hp
 have c_3 := C18_eq h_2
 simp at c_3
 simp [Tryz.f17, c_3]
 rcases zad hp with ⟨h_4, hp⟩ | ⟨h_4, hp⟩
 ·try simp at h_4
  obtain ⟨y_5, h_6, hp⟩ := zab hp
  have c_7 := C18_eq h_6
  simp at c_7
  try simp [h_4, c_7]
  rcases zad hp with ⟨h_8, hp⟩ | ⟨h_8, hp⟩
  ·try simp at h_8
   cases hp
   simp [Goal, FnEnd, h_4, h_8]
  ·try simp at h_8
   cases hp
   simp [Goal, FnEnd, h_4, h_8]
 ·try simp at h_4
  cases hp
  simp [Goal, FnEnd, h_4]
theorem pc17 : PC Tryz.prog 17 C17 := pc_of (g := g17) (zah _ g17_s.2.1 ⟨pc18, trivial⟩) (ent Tryz.func17) fun x y h => w17 h

def C15 : List AV → Option AV := specP (X := TState × TState × Unit) fun x => laws_eqState x.1 x.2.1
theorem C15_eq {a_ b_} {y} (h : laws_eqState a_ b_ = some y) : C15 [av .shr a_, av .shr b_] = some (Res.res y) := zaf (x := (a_, b_, ())) h
def g15 : Cfg := { P := Tryz.prog, take := [], keep := [], gho := [], ctx := [(17, C17)] }
@[simp] theorem g15_s : g15.P = Tryz.prog ∧ g15.ctx = [(17, C17)] ∧ Pl0 g15 := by simp [g15]
theorem w15 {a_ b_} {y} (hp : laws_eqState a_ b_ = some y) : ∃ m, callo g15 0 15 [av .shr a_, av .shr b_] mem0 = some (Res.res y, m) := by
 refine st0 [.tmp 4] Tryz.func15 ?_
 unfold laws_eqState at hp
 simp [Tryz.f15]
 rcases zad hp with ⟨h_1, hp⟩ | ⟨h_1, hp⟩
 ·try simp at h_1
  cases hp
  simp [Goal, FnEnd, h_1]
 ·try simp at h_1
  obtain ⟨y_2, h_3, hp⟩ := zab hp
  have c_4 := C17_eq h_3
  simp at c_4
  try simp [h_1, c_4]
  rcases zad hp with ⟨h_5, hp⟩ | ⟨h_5, hp⟩
  ·try simp at h_5
   cases hp
   simp [Goal, FnEnd, h_1, h_5]
  ·try simp at h_5
   cases hp
   simp [Goal, FnEnd, h_1, h_5]
theorem pc15 : PC Tryz.prog 15 C15 := pc_of (g := g15) (zah _ g15_s.2.1 ⟨pc17, trivial⟩) (ent Tryz.func15) fun x y h => w15 h

def C31 : List AV → Option AV := specP (X := (List TState) × (List TState) × Unit) fun x => laws_eqStateS x.1 x.2.1
theorem C31_eq {a_ b_} {y} (h : laws_eqStateS a_ b_ = some y) : C31 [av .shr a_, av .shr b_] = some (Res.res y) := zaf (x := (a_, b_, ())) h
def g31 : Cfg := { P := Tryz.prog, take := [], keep := [((31, 4), { hd := [0, 1, 5], bx := [], ex := [], rt := [4] })], gho := [], ctx := [(15, C15)] }
@[simp] theorem g31_s : g31.P = Tryz.prog ∧ g31.ctx = [(15, C15)] ∧ Pl0 g31 := by simp [g31]
theorem w31 {a_ b_} {y} (hp : laws_eqStateS a_ b_ = some y) : ∃ m, callo g31 0 31 [av .shr a_, av .shr b_] mem0 = some (Res.res y, m) := by
 refine st0 [.tmp 4] Tryz.func31 ?_
 unfold laws_eqStateS at hp
 simp [Tryz.f31]
 rcases zad hp with ⟨h_1, hp⟩ | ⟨h_1, hp⟩
 ·try simp at h_1
  cases hp
  simp [Goal, FnEnd, h_1]
 ·try simp at h_1
  try simp [h_1]
  obtain ⟨r_24, h_25, hp⟩ := zab hp
  obtain ⟨I_4, I_4_⟩ := exV fun (s_2 : Int) (σ : St) => (σ.env 0 = uL .shr a_ ∧ σ.env 1 = uL .shr b_ ∧ σ.env 5 = uI s_2) ∧ σ.mem = mem0
  obtain ⟨X_5, X_5_⟩ := exV fun (r_24 : (Unit) ⊕ (Unit)) (out : Out) => Sum.elim (fun r_24 => ∃ σ : St, out = .ret σ ∧ σ.env 4 = uB false ∧ σ.mem = mem0) (fun r_24 => ∃ σ : St, out = .exit 0 σ ∧ σ.mem = mem0) r_24
  refine loopP ({ hd := [0, 1, 5], bx := [], ex := [], rt := [4] }) I_4 X_5 h_25 (by exact rfl) ?_ ?_ ?_
  ·rw [I_4_]
   exact ⟨by simp [zac, zaa, h_1], by simp [zaa, h_1]⟩
  ·intro s_2 σ_6 a_3 hI hp
   rw [I_4_] at hI
   obtain ⟨q_8, q_7⟩ := hI
   try simp [h_1, q_8, q_7]
   rcases zad hp with ⟨h_9, hp⟩ | ⟨h_9, hp⟩
   ·try simp at h_9
    obtain ⟨e_10, h_11, hp⟩ := zab hp
    have b_12 := at_lo h_11
    have b_13 := at_hi h_11
    try simp at b_12 b_13
    have c_14 := seg_at' h_11 0 3 (by decide) (ds := [.sc (.int .i64 e_10.point), .sl e_10.heap.vars.length (encL e_10.heap.vars), .sl e_10.heap.next.length (encL e_10.heap.next)]) rfl
    try simp at c_14
    obtain ⟨e_15, h_16, hp⟩ := zab hp
    have b_17 := at_lo h_16
    have b_18 := at_hi h_16
    try simp at b_17 b_18
    have c_19 := seg_at' h_16 0 3 (by decide) (ds := [.sc (.int .i64 e_15.point), .sl e_15.heap.vars.length (encL e_15.heap.vars), .sl e_15.heap.next.length (encL e_15.heap.next)]) rfl
    try simp at c_19
    obtain ⟨y_20, h_21, hp⟩ := zab hp
    have c_22 := C15_eq h_21
    simp at c_22
    try simp [h_1, q_8, q_7, h_9, b_12, b_13, c_14, b_17, b_18, c_19, c_22]
    rcases zad hp with ⟨h_23, hp⟩ | ⟨h_23, hp⟩
    ·try simp at h_23
     cases hp
     try simp [h_1, q_8, q_7, h_9, h_23]
     refine zai ?_
     rw [I_4_]
     exact ⟨by simp [zac, zaa, h_1, q_8, q_7, h_9, h_23], by simp [zaa, h_1, q_8, q_7, h_9, h_23]⟩
    ·try simp at h_23
     cases hp
     try simp [h_1, q_8, q_7, h_9, h_23]
     refine zan ?_
     rw [X_5_]
     exact ⟨_, rfl, by simp [zac, zaa, h_1, q_8, q_7, h_9, h_23], by simp [zaa, h_1, q_8, q_7, h_9, h_23]⟩
   ·try simp at h_9
    cases hp
    try simp [h_1, q_8, q_7, h_9]
    refine zal ?_
    rw [X_5_]
    exact ⟨_, rfl, by simp [zaa, h_1, q_8, q_7, h_9]⟩
  ·intro out hX
   rw [X_5_] at hX
   rcases r_24 with r_24 | r_24
   ·simp only [Sum.elim_inl, Sum.elim_inr] at hX hp
    obtain ⟨σ_26, rfl, q_28, q_27⟩ := hX
    cases hp
    simp [Goal, FnEnd, h_1, q_28, q_27]
   ·simp only [Sum.elim_inl, Sum.elim_inr] at hX hp
    obtain ⟨σ_29, rfl, q_30⟩ := hX
    cases hp
    simp [Goal, FnEnd, h_1, q_30]
theorem pc31 : PC Tryz.prog 31 C31 := pc_of (g := g31) (zah _ g31_s.2.1 ⟨pc15, trivial⟩) (ent Tryz.func31) fun x y h => w31 h

def C58 : List AV → Option AV := specP (X := (List ByteArray) × (List ByteArray) × Unit) fun x => laws_eqStringS x.1 x.2.1
theorem C58_eq {a_ b_} {y} (h : laws_eqStringS a_ b_ = some y) : C58 [av .shr a_, av .shr b_] = some (Res.res y) := zaf (x := (a_, b_, ())) h
def g58 : Cfg := { P := Tryz.prog, take := [], keep := [((58, 4), { hd := [0, 1, 5], bx := [], ex := [], rt := [4] })], gho := [], ctx := [] }
@[simp] theorem g58_s : g58.P = Tryz.prog ∧ g58.ctx = [] ∧ Pl0 g58 := by simp [g58]
theorem w58 {a_ b_} {y} (hp : laws_eqStringS a_ b_ = some y) : ∃ m, callo g58 0 58 [av .shr a_, av .shr b_] mem0 = some (Res.res y, m) := by
 refine st0 [.tmp 4] Tryz.func58 ?_
 unfold laws_eqStringS at hp
 simp [Tryz.f58]
 rcases zad hp with ⟨h_1, hp⟩ | ⟨h_1, hp⟩
 ·try simp at h_1
  cases hp
  simp [Goal, FnEnd, h_1]
 ·try simp at h_1
  try simp [h_1]
  obtain ⟨r_21, h_22, hp⟩ := zab hp
  obtain ⟨I_4, I_4_⟩ := exV fun (s_2 : Int) (σ : St) => (σ.env 0 = uL .shr a_ ∧ σ.env 1 = uL .shr b_ ∧ σ.env 5 = uI s_2) ∧ σ.mem = mem0
  obtain ⟨X_5, X_5_⟩ := exV fun (r_21 : (Unit) ⊕ (Unit)) (out : Out) => Sum.elim (fun r_21 => ∃ σ : St, out = .ret σ ∧ σ.env 4 = uB false ∧ σ.mem = mem0) (fun r_21 => ∃ σ : St, out = .exit 0 σ ∧ σ.mem = mem0) r_21
  refine loopP ({ hd := [0, 1, 5], bx := [], ex := [], rt := [4] }) I_4 X_5 h_22 (by exact rfl) ?_ ?_ ?_
  ·rw [I_4_]
   exact ⟨by simp [zac, zaa, h_1], by simp [zaa, h_1]⟩
  ·intro s_2 σ_6 a_3 hI hp
   rw [I_4_] at hI
   obtain ⟨q_8, q_7⟩ := hI
   try simp [h_1, q_8, q_7]
   rcases zad hp with ⟨h_9, hp⟩ | ⟨h_9, hp⟩
   ·try simp at h_9
    obtain ⟨e_10, h_11, hp⟩ := zab hp
    have b_12 := at_lo h_11
    have b_13 := at_hi h_11
    try simp at b_12 b_13
    have c_14 := seg_at' h_11 0 1 (by decide) (ds := [.sc (.string e_10)]) rfl
    try simp at c_14
    obtain ⟨e_15, h_16, hp⟩ := zab hp
    have b_17 := at_lo h_16
    have b_18 := at_hi h_16
    try simp at b_17 b_18
    have c_19 := seg_at' h_16 0 1 (by decide) (ds := [.sc (.string e_15)]) rfl
    try simp at c_19
    try simp [h_1, q_8, q_7, h_9, b_12, b_13, c_14, b_17, b_18, c_19]
    rcases zad hp with ⟨h_20, hp⟩ | ⟨h_20, hp⟩
    ·try simp at h_20
     cases hp
     try simp [h_1, q_8, q_7, h_9, h_20]
     refine zan ?_
     rw [X_5_]
     exact ⟨_, rfl, by simp [zac, zaa, h_1, q_8, q_7, h_9, h_20], by simp [zaa, h_1, q_8, q_7, h_9, h_20]⟩
    ·try simp at h_20
     cases hp
     try simp [h_1, q_8, q_7, h_9, h_20]
     refine zai ?_
     rw [I_4_]
     exact ⟨by simp [zac, zaa, h_1, q_8, q_7, h_9, h_20], by simp [zaa, h_1, q_8, q_7, h_9, h_20]⟩
   ·try simp at h_9
    cases hp
    try simp [h_1, q_8, q_7, h_9]
    refine zal ?_
    rw [X_5_]
    exact ⟨_, rfl, by simp [zaa, h_1, q_8, q_7, h_9]⟩
  ·intro out hX
   rw [X_5_] at hX
   rcases r_21 with r_21 | r_21
   ·simp only [Sum.elim_inl, Sum.elim_inr] at hX hp
    obtain ⟨σ_23, rfl, q_25, q_24⟩ := hX
    cases hp
    simp [Goal, FnEnd, h_1, q_25, q_24]
   ·simp only [Sum.elim_inl, Sum.elim_inr] at hX hp
    obtain ⟨σ_26, rfl, q_27⟩ := hX
    cases hp
    simp [Goal, FnEnd, h_1, q_27]
theorem pc58 : PC Tryz.prog 58 C58 := pc_of (g := g58) (zah [] rfl trivial) (ent Tryz.func58) fun x y h => w58 h

def C145 : List AV → Option AV := specP (X := TStmt × TStmt × Unit) fun x => laws_eqStmt x.1 x.2.1
theorem C145_eq {a_ b_} {y} (h : laws_eqStmt a_ b_ = some y) : C145 [av .shr a_, av .shr b_] = some (Res.res y) := zaf (x := (a_, b_, ())) h
def g145 : Cfg := { P := Tryz.prog, take := [], keep := [], gho := [], ctx := [] }
@[simp] theorem g145_s : g145.P = Tryz.prog ∧ g145.ctx = [] ∧ Pl0 g145 := by simp [g145]
theorem w145 {a_ b_} {y} (hp : laws_eqStmt a_ b_ = some y) : ∃ m, callo g145 0 145 [av .shr a_, av .shr b_] mem0 = some (Res.res y, m) := by
 refine st0 [.tmp 4] Tryz.func145 ?_
 unfold laws_eqStmt at hp
 simp [Tryz.f145]
 rcases zad hp with ⟨h_1, hp⟩ | ⟨h_1, hp⟩
 ·try simp at h_1
  cases hp
  simp [Goal, FnEnd, h_1]
 ·try simp at h_1
  try simp [h_1]
  rcases zad hp with ⟨h_2, hp⟩ | ⟨h_2, hp⟩
  ·try simp at h_2
   cases hp
   simp [Goal, FnEnd, h_1, h_2]
  ·try simp at h_2
   try simp [h_1, h_2]
   rcases zad hp with ⟨h_3, hp⟩ | ⟨h_3, hp⟩
   ·try simp at h_3
    cases hp
    simp [Goal, FnEnd, h_1, h_2, h_3]
   ·try simp at h_3
    cases hp
    simp [Goal, FnEnd, h_1, h_2, h_3]
theorem pc145 : PC Tryz.prog 145 C145 := pc_of (g := g145) (zah [] rfl trivial) (ent Tryz.func145) fun x y h => w145 h

def C109 : List AV → Option AV := specP (X := TEdge × TEdge × Unit) fun x => laws_eqEdge x.1 x.2.1
theorem C109_eq {a_ b_} {y} (h : laws_eqEdge a_ b_ = some y) : C109 [av .shr a_, av .shr b_] = some (Res.res y) := zaf (x := (a_, b_, ())) h
def g109 : Cfg := { P := Tryz.prog, take := [], keep := [], gho := [], ctx := [(145, C145)] }
@[simp] theorem g109_s : g109.P = Tryz.prog ∧ g109.ctx = [(145, C145)] ∧ Pl0 g109 := by simp [g109]
theorem w109 {a_ b_} {y} (hp : laws_eqEdge a_ b_ = some y) : ∃ m, callo g109 0 109 [av .shr a_, av .shr b_] mem0 = some (Res.res y, m) := by
 refine st0 [.tmp 4] Tryz.func109 ?_
 unfold laws_eqEdge at hp
 simp [Tryz.f109]
 rcases zad hp with ⟨h_1, hp⟩ | ⟨h_1, hp⟩
 ·try simp at h_1
  cases hp
  simp [Goal, FnEnd, h_1]
 ·try simp at h_1
  try simp [h_1]
  rcases zad hp with ⟨h_2, hp⟩ | ⟨h_2, hp⟩
  ·try simp at h_2
   cases hp
   simp [Goal, FnEnd, h_1, h_2]
  ·try simp at h_2
   obtain ⟨y_3, h_4, hp⟩ := zab hp
   have c_5 := C145_eq h_4
   simp at c_5
   try simp [h_1, h_2, c_5]
   rcases zad hp with ⟨h_6, hp⟩ | ⟨h_6, hp⟩
   ·try simp at h_6
    cases hp
    simp [Goal, FnEnd, h_1, h_2, h_6]
   ·try simp at h_6
    cases hp
    simp [Goal, FnEnd, h_1, h_2, h_6]
theorem pc109 : PC Tryz.prog 109 C109 := pc_of (g := g109) (zah _ g109_s.2.1 ⟨pc145, trivial⟩) (ent Tryz.func109) fun x y h => w109 h

def C59 : List AV → Option AV := specP (X := (List TEdge) × (List TEdge) × Unit) fun x => laws_eqEdgeS x.1 x.2.1
theorem C59_eq {a_ b_} {y} (h : laws_eqEdgeS a_ b_ = some y) : C59 [av .shr a_, av .shr b_] = some (Res.res y) := zaf (x := (a_, b_, ())) h
def g59 : Cfg := { P := Tryz.prog, take := [], keep := [((59, 4), { hd := [0, 1, 5], bx := [], ex := [], rt := [4] })], gho := [], ctx := [(109, C109)] }
@[simp] theorem g59_s : g59.P = Tryz.prog ∧ g59.ctx = [(109, C109)] ∧ Pl0 g59 := by simp [g59]
theorem w59 {a_ b_} {y} (hp : laws_eqEdgeS a_ b_ = some y) : ∃ m, callo g59 0 59 [av .shr a_, av .shr b_] mem0 = some (Res.res y, m) := by
 refine st0 [.tmp 4] Tryz.func59 ?_
 unfold laws_eqEdgeS at hp
 simp [Tryz.f59]
 rcases zad hp with ⟨h_1, hp⟩ | ⟨h_1, hp⟩
 ·try simp at h_1
  cases hp
  simp [Goal, FnEnd, h_1]
 ·try simp at h_1
  try simp [h_1]
  obtain ⟨r_24, h_25, hp⟩ := zab hp
  obtain ⟨I_4, I_4_⟩ := exV fun (s_2 : Int) (σ : St) => (σ.env 0 = uL .shr a_ ∧ σ.env 1 = uL .shr b_ ∧ σ.env 5 = uI s_2) ∧ σ.mem = mem0
  obtain ⟨X_5, X_5_⟩ := exV fun (r_24 : (Unit) ⊕ (Unit)) (out : Out) => Sum.elim (fun r_24 => ∃ σ : St, out = .ret σ ∧ σ.env 4 = uB false ∧ σ.mem = mem0) (fun r_24 => ∃ σ : St, out = .exit 0 σ ∧ σ.mem = mem0) r_24
  refine loopP ({ hd := [0, 1, 5], bx := [], ex := [], rt := [4] }) I_4 X_5 h_25 (by exact rfl) ?_ ?_ ?_
  ·rw [I_4_]
   exact ⟨by simp [zac, zaa, h_1], by simp [zaa, h_1]⟩
  ·intro s_2 σ_6 a_3 hI hp
   rw [I_4_] at hI
   obtain ⟨q_8, q_7⟩ := hI
   try simp [h_1, q_8, q_7]
   rcases zad hp with ⟨h_9, hp⟩ | ⟨h_9, hp⟩
   ·try simp at h_9
    obtain ⟨e_10, h_11, hp⟩ := zab hp
    have b_12 := at_lo h_11
    have b_13 := at_hi h_11
    try simp at b_12 b_13
    have c_14 := seg_at' h_11 0 5 (by decide) (ds := [.sc (.int .i64 e_10.from_), .sc (.int .i64 e_10.to_), .sc (.int .i64 e_10.stmt.kind), .sc (.string e_10.stmt.a), .sc (.string e_10.stmt.b)]) rfl
    try simp at c_14
    obtain ⟨e_15, h_16, hp⟩ := zab hp
    have b_17 := at_lo h_16
    have b_18 := at_hi h_16
    try simp at b_17 b_18
    have c_19 := seg_at' h_16 0 5 (by decide) (ds := [.sc (.int .i64 e_15.from_), .sc (.int .i64 e_15.to_), .sc (.int .i64 e_15.stmt.kind), .sc (.string e_15.stmt.a), .sc (.string e_15.stmt.b)]) rfl
    try simp at c_19
    obtain ⟨y_20, h_21, hp⟩ := zab hp
    have c_22 := C109_eq h_21
    simp at c_22
    try simp [h_1, q_8, q_7, h_9, b_12, b_13, c_14, b_17, b_18, c_19, c_22]
    rcases zad hp with ⟨h_23, hp⟩ | ⟨h_23, hp⟩
    ·try simp at h_23
     cases hp
     try simp [h_1, q_8, q_7, h_9, h_23]
     refine zai ?_
     rw [I_4_]
     exact ⟨by simp [zac, zaa, h_1, q_8, q_7, h_9, h_23], by simp [zaa, h_1, q_8, q_7, h_9, h_23]⟩
    ·try simp at h_23
     cases hp
     try simp [h_1, q_8, q_7, h_9, h_23]
     refine zan ?_
     rw [X_5_]
     exact ⟨_, rfl, by simp [zac, zaa, h_1, q_8, q_7, h_9, h_23], by simp [zaa, h_1, q_8, q_7, h_9, h_23]⟩
   ·try simp at h_9
    cases hp
    try simp [h_1, q_8, q_7, h_9]
    refine zal ?_
    rw [X_5_]
    exact ⟨_, rfl, by simp [zaa, h_1, q_8, q_7, h_9]⟩
  ·intro out hX
   rw [X_5_] at hX
   rcases r_24 with r_24 | r_24
   ·simp only [Sum.elim_inl, Sum.elim_inr] at hX hp
    obtain ⟨σ_26, rfl, q_28, q_27⟩ := hX
    cases hp
    simp [Goal, FnEnd, h_1, q_28, q_27]
   ·simp only [Sum.elim_inl, Sum.elim_inr] at hX hp
    obtain ⟨σ_29, rfl, q_30⟩ := hX
    cases hp
    simp [Goal, FnEnd, h_1, q_30]
theorem pc59 : PC Tryz.prog 59 C59 := pc_of (g := g59) (zah _ g59_s.2.1 ⟨pc109, trivial⟩) (ent Tryz.func59) fun x y h => w59 h

def C16 : List AV → Option AV := specP (X := TProgram × TProgram × Unit) fun x => laws_eqProgram x.1 x.2.1
theorem C16_eq {a_ b_} {y} (h : laws_eqProgram a_ b_ = some y) : C16 [av .shr a_, av .shr b_] = some (Res.res y) := zaf (x := (a_, b_, ())) h
def g16 : Cfg := { P := Tryz.prog, take := [], keep := [], gho := [], ctx := [(58, C58), (59, C59)] }
@[simp] theorem g16_s : g16.P = Tryz.prog ∧ g16.ctx = [(58, C58), (59, C59)] ∧ Pl0 g16 := by simp [g16]
theorem w16 {a_ b_} {y} (hp : laws_eqProgram a_ b_ = some y) : ∃ m, callo g16 0 16 [av .shr a_, av .shr b_] mem0 = some (Res.res y, m) := by
 refine st0 [.tmp 4] Tryz.func16 ?_
 unfold laws_eqProgram at hp
 obtain ⟨y_1, h_2, hp⟩ := zab hp
 have c_3 := C58_eq h_2
 simp at c_3
 simp [Tryz.f16, c_3]
 rcases zad hp with ⟨h_4, hp⟩ | ⟨h_4, hp⟩
 ·try simp at h_4
  try simp [h_4]
  rcases zad hp with ⟨h_5, hp⟩ | ⟨h_5, hp⟩
  ·try simp at h_5
   cases hp
   simp [Goal, FnEnd, h_4, h_5]
  ·try simp at h_5
   obtain ⟨y_6, h_7, hp⟩ := zab hp
   have c_8 := C59_eq h_7
   simp at c_8
   try simp [h_4, h_5, c_8]
   rcases zad hp with ⟨h_9, hp⟩ | ⟨h_9, hp⟩
   ·try simp at h_9
    cases hp
    simp [Goal, FnEnd, h_4, h_5, h_9]
   ·try simp at h_9
    cases hp
    simp [Goal, FnEnd, h_4, h_5, h_9]
 ·try simp at h_4
  cases hp
  simp [Goal, FnEnd, h_4]
theorem pc16 : PC Tryz.prog 16 C16 := pc_of (g := g16) (zah _ g16_s.2.1 ⟨pc58, pc59, trivial⟩) (ent Tryz.func16) fun x y h => w16 h

def C28 : List AV → Option AV := specP (X := (List THeap) × (List THeap) × Unit) fun x => laws_eqHeapS x.1 x.2.1
theorem C28_eq {a_ b_} {y} (h : laws_eqHeapS a_ b_ = some y) : C28 [av .shr a_, av .shr b_] = some (Res.res y) := zaf (x := (a_, b_, ())) h
def g28 : Cfg := { P := Tryz.prog, take := [], keep := [((28, 4), { hd := [0, 1, 5], bx := [], ex := [], rt := [4] })], gho := [], ctx := [(17, C17)] }
@[simp] theorem g28_s : g28.P = Tryz.prog ∧ g28.ctx = [(17, C17)] ∧ Pl0 g28 := by simp [g28]
theorem w28 {a_ b_} {y} (hp : laws_eqHeapS a_ b_ = some y) : ∃ m, callo g28 0 28 [av .shr a_, av .shr b_] mem0 = some (Res.res y, m) := by
 refine st0 [.tmp 4] Tryz.func28 ?_
 unfold laws_eqHeapS at hp
 simp [Tryz.f28]
 rcases zad hp with ⟨h_1, hp⟩ | ⟨h_1, hp⟩
 ·try simp at h_1
  cases hp
  simp [Goal, FnEnd, h_1]
 ·try simp at h_1
  try simp [h_1]
  obtain ⟨r_24, h_25, hp⟩ := zab hp
  obtain ⟨I_4, I_4_⟩ := exV fun (s_2 : Int) (σ : St) => (σ.env 0 = uL .shr a_ ∧ σ.env 1 = uL .shr b_ ∧ σ.env 5 = uI s_2) ∧ σ.mem = mem0
  obtain ⟨X_5, X_5_⟩ := exV fun (r_24 : (Unit) ⊕ (Unit)) (out : Out) => Sum.elim (fun r_24 => ∃ σ : St, out = .ret σ ∧ σ.env 4 = uB false ∧ σ.mem = mem0) (fun r_24 => ∃ σ : St, out = .exit 0 σ ∧ σ.mem = mem0) r_24
  refine loopP ({ hd := [0, 1, 5], bx := [], ex := [], rt := [4] }) I_4 X_5 h_25 (by exact rfl) ?_ ?_ ?_
  ·rw [I_4_]
   exact ⟨by simp [zac, zaa, h_1], by simp [zaa, h_1]⟩
  ·intro s_2 σ_6 a_3 hI hp
   rw [I_4_] at hI
   obtain ⟨q_8, q_7⟩ := hI
   try simp [h_1, q_8, q_7]
   rcases zad hp with ⟨h_9, hp⟩ | ⟨h_9, hp⟩
   ·try simp at h_9
    obtain ⟨e_10, h_11, hp⟩ := zab hp
    have b_12 := at_lo h_11
    have b_13 := at_hi h_11
    try simp at b_12 b_13
    have c_14 := seg_at' h_11 0 2 (by decide) (ds := [.sl e_10.vars.length (encL e_10.vars), .sl e_10.next.length (encL e_10.next)]) rfl
    try simp at c_14
    obtain ⟨e_15, h_16, hp⟩ := zab hp
    have b_17 := at_lo h_16
    have b_18 := at_hi h_16
    try simp at b_17 b_18
    have c_19 := seg_at' h_16 0 2 (by decide) (ds := [.sl e_15.vars.length (encL e_15.vars), .sl e_15.next.length (encL e_15.next)]) rfl
    try simp at c_19
    obtain ⟨y_20, h_21, hp⟩ := zab hp
    have c_22 := C17_eq h_21
    simp at c_22
    try simp [h_1, q_8, q_7, h_9, b_12, b_13, c_14, b_17, b_18, c_19, c_22]
    rcases zad hp with ⟨h_23, hp⟩ | ⟨h_23, hp⟩
    ·try simp at h_23
     cases hp
     try simp [h_1, q_8, q_7, h_9, h_23]
     refine zai ?_
     rw [I_4_]
     exact ⟨by simp [zac, zaa, h_1, q_8, q_7, h_9, h_23], by simp [zaa, h_1, q_8, q_7, h_9, h_23]⟩
    ·try simp at h_23
     cases hp
     try simp [h_1, q_8, q_7, h_9, h_23]
     refine zan ?_
     rw [X_5_]
     exact ⟨_, rfl, by simp [zac, zaa, h_1, q_8, q_7, h_9, h_23], by simp [zaa, h_1, q_8, q_7, h_9, h_23]⟩
   ·try simp at h_9
    cases hp
    try simp [h_1, q_8, q_7, h_9]
    refine zal ?_
    rw [X_5_]
    exact ⟨_, rfl, by simp [zaa, h_1, q_8, q_7, h_9]⟩
  ·intro out hX
   rw [X_5_] at hX
   rcases r_24 with r_24 | r_24
   ·simp only [Sum.elim_inl, Sum.elim_inr] at hX hp
    obtain ⟨σ_26, rfl, q_28, q_27⟩ := hX
    cases hp
    simp [Goal, FnEnd, h_1, q_28, q_27]
   ·simp only [Sum.elim_inl, Sum.elim_inr] at hX hp
    obtain ⟨σ_29, rfl, q_30⟩ := hX
    cases hp
    simp [Goal, FnEnd, h_1, q_30]
theorem pc28 : PC Tryz.prog 28 C28 := pc_of (g := g28) (zah _ g28_s.2.1 ⟨pc17, trivial⟩) (ent Tryz.func28) fun x y h => w28 h

def C70 : List AV → Option AV := specP (X := (List Int) × Int × Unit) fun x => laws_heldIntS x.1 x.2.1
theorem C70_eq {a_ k_} {y} (h : laws_heldIntS a_ k_ = some y) : C70 [av .shr a_, av .shr k_] = some (Res.res y) := zaf (x := (a_, k_, ())) h
def g70 : Cfg := { P := Tryz.prog, take := [], keep := [((70, 2), { hd := [0, 1, 5], bx := [], ex := [1], rt := [4] })], gho := [], ctx := [] }
@[simp] theorem g70_s : g70.P = Tryz.prog ∧ g70.ctx = [] ∧ Pl0 g70 := by simp [g70]
theorem w70 {a_ k_} {y} (hp : laws_heldIntS a_ k_ = some y) : ∃ m, callo g70 0 70 [av .shr a_, av .shr k_] mem0 = some (Res.res y, m) := by
 refine st0 [.tmp 4] Tryz.func70 ?_
 unfold laws_heldIntS at hp
 simp [Tryz.f70]
 obtain ⟨r_15, h_16, hp⟩ := zab hp
 obtain ⟨I_3, I_3_⟩ := exV fun (s_1 : Int × Int) (σ : St) => (σ.env 0 = uL .shr a_ ∧ σ.env 1 = uI s_1.1 ∧ σ.env 5 = uI s_1.2) ∧ σ.mem = mem0
 obtain ⟨X_4, X_4_⟩ := exV fun (r_15 : (Int) ⊕ (Int)) (out : Out) => Sum.elim (fun r_15 => ∃ σ : St, out = .ret σ ∧ σ.env 4 = uI r_15 ∧ σ.mem = mem0) (fun r_15 => ∃ σ : St, out = .exit 0 σ ∧ σ.env 1 = uI r_15 ∧ σ.mem = mem0) r_15
 refine loopP ({ hd := [0, 1, 5], bx := [], ex := [1], rt := [4] }) I_3 X_4 h_16 (by exact rfl) ?_ ?_ ?_
 ·rw [I_3_]
  exact ⟨by simp [zac, zaa], by simp [zaa]⟩
 ·intro s_1 σ_5 a_2 hI hp
  rw [I_3_] at hI
  obtain ⟨q_7, q_6⟩ := hI
  try simp [q_7, q_6]
  rcases zad hp with ⟨h_8, hp⟩ | ⟨h_8, hp⟩
  ·try simp at h_8
   obtain ⟨e_9, h_10, hp⟩ := zab hp
   have b_11 := at_lo h_10
   have b_12 := at_hi h_10
   try simp at b_11 b_12
   have c_13 := seg_at' h_10 0 1 (by decide) (ds := [.sc (.int .i64 e_9)]) rfl
   try simp at c_13
   try simp [q_7, q_6, h_8, b_11, b_12, c_13]
   rcases zad hp with ⟨h_14, hp⟩ | ⟨h_14, hp⟩
   ·try simp at h_14
    cases hp
    try simp [q_7, q_6, h_8, h_14]
    refine zan ?_
    rw [X_4_]
    exact ⟨_, rfl, by simp [zac, zaa, q_7, q_6, h_8, h_14], by simp [zaa, q_7, q_6, h_8, h_14]⟩
   ·try simp at h_14
    cases hp
    try simp [q_7, q_6, h_8, h_14]
    refine zai ?_
    rw [I_3_]
    exact ⟨by simp [zac, zaa, q_7, q_6, h_8, h_14], by simp [zaa, q_7, q_6, h_8, h_14]⟩
  ·try simp at h_8
   cases hp
   try simp [q_7, q_6, h_8]
   refine zal ?_
   rw [X_4_]
   exact ⟨_, rfl, by simp [zac, zaa, q_7, q_6, h_8], by simp [zaa, q_7, q_6, h_8]⟩
 ·intro out hX
  rw [X_4_] at hX
  rcases r_15 with r_15 | r_15
  ·simp only [Sum.elim_inl, Sum.elim_inr] at hX hp
   obtain ⟨σ_17, rfl, q_19, q_18⟩ := hX
   cases hp
   simp [Goal, FnEnd, q_19, q_18]
  ·simp only [Sum.elim_inl, Sum.elim_inr] at hX hp
   obtain ⟨σ_20, rfl, q_22, q_21⟩ := hX
   cases hp
   simp [Goal, FnEnd, q_22, q_21]
theorem pc70 : PC Tryz.prog 70 C70 := pc_of (g := g70) (zah [] rfl trivial) (ent Tryz.func70) fun x y h => w70 h

def C34 : List AV → Option AV := specP (X := (List TState) × Int × Unit) fun x => laws_heldStateS x.1 x.2.1
theorem C34_eq {a_ k_} {y} (h : laws_heldStateS a_ k_ = some y) : C34 [av .shr a_, av .shr k_] = some (Res.res y) := zaf (x := (a_, k_, ())) h
def g34 : Cfg := { P := Tryz.prog, take := [], keep := [((34, 2), { hd := [0, 1, 5], bx := [], ex := [1], rt := [4] })], gho := [], ctx := [(70, C70)] }
@[simp] theorem g34_s : g34.P = Tryz.prog ∧ g34.ctx = [(70, C70)] ∧ Pl0 g34 := by simp [g34]
theorem w34 {a_ k_} {y} (hp : laws_heldStateS a_ k_ = some y) : ∃ m, callo g34 0 34 [av .shr a_, av .shr k_] mem0 = some (Res.res y, m) := by
 refine st0 [.tmp 4] Tryz.func34 ?_
 unfold laws_heldStateS at hp
 simp [Tryz.f34]
 obtain ⟨r_33, h_34, hp⟩ := zab hp
 obtain ⟨I_3, I_3_⟩ := exV fun (s_1 : Int × Int) (σ : St) => (σ.env 0 = uL .shr a_ ∧ σ.env 1 = uI s_1.1 ∧ σ.env 5 = uI s_1.2) ∧ σ.mem = mem0
 obtain ⟨X_4, X_4_⟩ := exV fun (r_33 : (Int) ⊕ (Int)) (out : Out) => Sum.elim (fun r_33 => ∃ σ : St, out = .ret σ ∧ σ.env 4 = uI r_33 ∧ σ.mem = mem0) (fun r_33 => ∃ σ : St, out = .exit 0 σ ∧ σ.env 1 = uI r_33 ∧ σ.mem = mem0) r_33
 refine loopP ({ hd := [0, 1, 5], bx := [], ex := [1], rt := [4] }) I_3 X_4 h_34 (by exact rfl) ?_ ?_ ?_
 ·rw [I_3_]
  exact ⟨by simp [zac, zaa], by simp [zaa]⟩
 ·intro s_1 σ_5 a_2 hI hp
  rw [I_3_] at hI
  obtain ⟨q_7, q_6⟩ := hI
  try simp [q_7, q_6]
  rcases zad hp with ⟨h_8, hp⟩ | ⟨h_8, hp⟩
  ·try simp at h_8
   obtain ⟨e_9, h_10, hp⟩ := zab hp
   have b_11 := at_lo h_10
   have b_12 := at_hi h_10
   try simp at b_11 b_12
   have c_13 := seg_at' h_10 0 1 (by decide) (ds := [.sc (.int .i64 e_9.point)]) rfl
   try simp at c_13
   try simp [q_7, q_6, h_8, b_11, b_12, c_13]
   rcases zad hp with ⟨h_14, hp⟩ | ⟨h_14, hp⟩
   ·try simp at h_14
    cases hp
    try simp [q_7, q_6, h_8, h_14]
    refine zan ?_
    rw [X_4_]
    exact ⟨_, rfl, by simp [zac, zaa, q_7, q_6, h_8, h_14], by simp [zaa, q_7, q_6, h_8, h_14]⟩
   ·try simp at h_14
    obtain ⟨e_15, h_16, hp⟩ := zab hp
    cases Option.some.inj (h_10.symm.trans h_16)
    have b_17 := at_lo h_10
    have b_18 := at_hi h_10
    try simp at b_17 b_18
    have c_19 := seg_at' h_10 1 1 (by decide) (ds := [.sl e_9.heap.vars.length (encL e_9.heap.vars)]) rfl
    try simp at c_19
    obtain ⟨y_20, h_21, hp⟩ := zab hp
    have c_22 := C70_eq h_21
    simp at c_22
    try simp [q_7, q_6, h_8, h_14, b_17, b_18, c_19, c_22]
    rcases zad hp with ⟨h_23, hp⟩ | ⟨h_23, hp⟩
    ·try simp at h_23
     cases hp
     try simp [q_7, q_6, h_8, h_14, h_23]
     refine zan ?_
     rw [X_4_]
     exact ⟨_, rfl, by simp [zac, zaa, q_7, q_6, h_8, h_14, h_23], by simp [zaa, q_7, q_6, h_8, h_14, h_23]⟩
    ·try simp at h_23
     obtain ⟨e_24, h_25, hp⟩ := zab hp
     cases Option.some.inj (h_10.symm.trans h_25)
     have b_26 := at_lo h_10
     have b_27 := at_hi h_10
     try simp at b_26 b_27
     have c_28 := seg_at' h_10 2 1 (by decide) (ds := [.sl e_9.heap.next.length (encL e_9.heap.next)]) rfl
     try simp at c_28
     obtain ⟨y_29, h_30, hp⟩ := zab hp
     have c_31 := C70_eq h_30
     simp at c_31
     try simp [q_7, q_6, h_8, h_14, h_23, b_26, b_27, c_28, c_31]
     rcases zad hp with ⟨h_32, hp⟩ | ⟨h_32, hp⟩
     ·try simp at h_32
      cases hp
      try simp [q_7, q_6, h_8, h_14, h_23, h_32]
      refine zan ?_
      rw [X_4_]
      exact ⟨_, rfl, by simp [zac, zaa, q_7, q_6, h_8, h_14, h_23, h_32], by simp [zaa, q_7, q_6, h_8, h_14, h_23, h_32]⟩
     ·try simp at h_32
      cases hp
      try simp [q_7, q_6, h_8, h_14, h_23, h_32]
      refine zai ?_
      rw [I_3_]
      exact ⟨by simp [zac, zaa, q_7, q_6, h_8, h_14, h_23, h_32], by simp [zaa, q_7, q_6, h_8, h_14, h_23, h_32]⟩
  ·try simp at h_8
   cases hp
   try simp [q_7, q_6, h_8]
   refine zal ?_
   rw [X_4_]
   exact ⟨_, rfl, by simp [zac, zaa, q_7, q_6, h_8], by simp [zaa, q_7, q_6, h_8]⟩
 ·intro out hX
  rw [X_4_] at hX
  rcases r_33 with r_33 | r_33
  ·simp only [Sum.elim_inl, Sum.elim_inr] at hX hp
   obtain ⟨σ_35, rfl, q_37, q_36⟩ := hX
   cases hp
   simp [Goal, FnEnd, q_37, q_36]
  ·simp only [Sum.elim_inl, Sum.elim_inr] at hX hp
   obtain ⟨σ_38, rfl, q_40, q_39⟩ := hX
   cases hp
   simp [Goal, FnEnd, q_40, q_39]
theorem pc34 : PC Tryz.prog 34 C34 := pc_of (g := g34) (zah _ g34_s.2.1 ⟨pc70, trivial⟩) (ent Tryz.func34) fun x y h => w34 h

def C5 : List AV → Option AV := specP (X := TProgram × (List THeap) × Unit) fun x => laws_FnExactStatesFrom x.1 x.2.1
theorem C5_eq {aP aStart} {y} (h : laws_FnExactStatesFrom aP aStart = some y) : C5 [av .shr aP, av .shr aStart] = some (Res.res y) := zaf (x := (aP, aStart, ())) h
def g5 : Cfg := { P := Tryz.prog, take := [(5, 27), (5, 39), (5, 94)], keep := [((60, 2), rowKp), ((61, 2), rowKp), ((32, 2), rowKp), ((21, 2), rowKp), ((33, 2), rowKp)], gho := [((5, 19), [.many (thawBox 1 8)]), ((5, 2000019), [.many (frzBox 1 8)]), ((5, 20), [.many (thawSlot 1 9)]), ((5, 2000020), [.many (frzSlot 1 9)]), ((5, 24), [.many (thawSlot 1 10)]), ((5, 2000024), [.many (frzSlot 1 10)])], ctx := [(8, C8), (11, C11), (16, C16), (24, C24), (26, C26), (28, C28), (29, C29), (30, C30), (31, C31), (34, C34), (110, C110)] }
@[simp] theorem g5_s : g5.P = Tryz.prog ∧ g5.ctx = [(8, C8), (11, C11), (16, C16), (24, C24), (26, C26), (28, C28), (29, C29), (30, C30), (31, C31), (34, C34), (110, C110)] ∧ g5.take = [(5, 27), (5, 39), (5, 94)] ∧ g5.gho = [((5, 19), [.many (thawBox 1 8)]), ((5, 2000019), [.many (frzBox 1 8)]), ((5, 20), [.many (thawSlot 1 9)]), ((5, 2000020), [.many (frzSlot 1 9)]), ((5, 24), [.many (thawSlot 1 10)]), ((5, 2000024), [.many (frzSlot 1 10)])] ∧ g5.ro = [] ∧ g5.away = [] ∧ g5.give = [] ∧ g5.octx = [] := by simp [g5]
theorem w5 {aP aStart} {y} (hp : laws_FnExactStatesFrom aP aStart = some y) : ∃ m, callo g5 0 5 [av .shr aP, av .shr aStart] mem0 = some (Res.res y, m) := by
 have G_19 : G19 g5 := ⟨rfl, by kernel_rfl, rfl, fun t => by simp, noAway (fun t => by simp) (by simp) (fun t => by simp), by simp [lookN], fun i => by simp [lookK], by simp [g5, lookK], by simp⟩
 have G_60 : G60 g5 := ⟨rfl, by kernel_rfl, rfl, fun t => by simp, noAway (fun t => by simp) (by simp) (fun t => by simp), by simp [lookN], fun i => by simp [lookK], by simp [g5, lookK], by simp⟩
 have G_61 : G61 g5 := ⟨rfl, by kernel_rfl, rfl, fun t => by simp, noAway (fun t => by simp) (by simp) (fun t => by simp), by simp [lookN], fun i => by simp [lookK], by simp [g5, lookK], by simp⟩
 have G_32 : G32 g5 := ⟨rfl, by kernel_rfl, rfl, fun t => by simp, noAway (fun t => by simp) (by simp) (fun t => by simp), by simp [lookN], fun i => by simp [lookK], by simp [g5, lookK], by simp⟩
 have G_21 : G21 g5 := ⟨rfl, by kernel_rfl, rfl, fun t => by simp, noAway (fun t => by simp) (by simp) (fun t => by simp), by simp [lookN], fun i => by simp [lookK], by simp [g5, lookK], by simp⟩
 have G_33 : G33 g5 := ⟨rfl, by kernel_rfl, rfl, fun t => by simp, noAway (fun t => by simp) (by simp) (fun t => by simp), by simp [lookN], fun i => by simp [lookK], by simp [g5, lookK], by simp⟩
 refine st0 [.tmp 4] Tryz.func5 ?_
 unfold laws_FnExactStatesFrom at hp
 obtain ⟨y_1, h_2, hp⟩ := zab hp
 have c_3 := C8_eq h_2
 simp at c_3
 simp [Tryz.f5, c_3]
 rcases zad hp with ⟨h_4, hp⟩ | ⟨h_4, hp⟩
 ·try simp at h_4
  cases hp
  simp [Goal, FnEnd, h_4]
 ·try simp at h_4
  obtain ⟨y_5, h_6, hp⟩ := zab hp
  have c_7 := C24_eq h_6
  simp at c_7
  try simp [h_4, c_7]
  rcases zad hp with ⟨h_8, hp⟩ | ⟨h_8, hp⟩
  ·try simp at h_8
   cases hp
   simp [Goal, FnEnd, h_4, h_8]
  ·try simp at h_8
   obtain ⟨y_9, h_10, hp⟩ := zab hp
   have c_11 := C11_eq h_10
   simp at c_11
   obtain ⟨y_12, h_13, hp⟩ := zab hp
   have c_14 := C26_eq h_13
   simp at c_14
   obtain ⟨y_15, h_16, hp⟩ := zab hp
   have c_17 := C29_eq h_16
   simp at c_17
   obtain ⟨y_18, h_19, hp⟩ := zab hp
   cases Option.some.inj (h_10.symm.trans h_19)
   obtain ⟨y_20, h_21, hp⟩ := zab hp
   cases Option.some.inj (h_13.symm.trans h_21)
   obtain ⟨y_22, h_23, hp⟩ := zab hp
   have c_24 := C30_eq h_23
   simp at c_24
   obtain ⟨y_25, h_26, hp⟩ := zab hp
   have c_27 := C31_eq h_26
   simp at c_27
   try simp [h_4, h_8, c_11, c_14, c_17, c_11, c_14, c_24, c_27]
   rcases zad hp with ⟨h_28, hp⟩ | ⟨h_28, hp⟩
   ·try simp at h_28
    try simp [h_4, h_8, h_28]
    rcases zad hp with ⟨h_29, hp⟩ | ⟨h_29, hp⟩
    ·try simp at h_29
     cases hp
     simp [Goal, FnEnd, h_4, h_8, h_28, h_29]
    ·try simp at h_29
     obtain ⟨y_30, h_31, hp⟩ := zab hp
     cases Option.some.inj (h_10.symm.trans h_31)
     obtain ⟨y_32, h_33, hp⟩ := zab hp
     have c_34 := C16_eq h_33
     simp at c_34
     try simp [h_4, h_8, h_28, h_29, c_11, c_34]
     rcases zad hp with ⟨h_35, hp⟩ | ⟨h_35, hp⟩
     ·try simp at h_35
      obtain ⟨y_36, h_37, hp⟩ := zab hp
      cases Option.some.inj (h_13.symm.trans h_37)
      obtain ⟨y_38, h_39, hp⟩ := zab hp
      have c_40 := C28_eq h_39
      simp at c_40
      try simp [h_4, h_8, h_28, h_29, h_35, c_14, c_40]
      rcases zad hp with ⟨h_41, hp⟩ | ⟨h_41, hp⟩
      ·try simp at h_41
       obtain ⟨r_42, h_43, hp⟩ := zab hp
       obtain ⟨lg_44, e_45⟩ := markO_eq h_43
       have mk_46 := mk19 G_19 G_60 G_61 y_9 1 lg_44
       rw [e_45] at mk_46
       try simp [h_4, h_8, h_28, h_29, h_35, h_41]
       refine goal_markB 8 8 12 64 65 66 19 mk_46 (show ti g5.P 38 = some _ from ti_38) rfl rfl (by decide) (by simp [h_4, h_8, h_28, h_29, h_35, h_41]) (by simp [h_4, h_8, h_28, h_29, h_35, h_41]) (by simp [h_4, h_8, h_28, h_29, h_35, h_41]) (WfE.wfE _) (WfE.wfE _) (fun key hkey => by simp [mem0, key_low hkey 1 2 (by decide), key_low hkey 1 8 (by decide), h_4, h_8, h_28, h_29, h_35, h_41]) (by simp) (by simp) (by simp) rfl (by decide) fun σ_47 qq_48 hq_49 hx_50 hk_51 he_52 hd_53 hm_54 => ?_
       obtain ⟨q_55, q_56, q_57, q_58, q_59, q_60, q_61, q_62, q_63, q_64⟩ : σ_47.env 1 = uL .shr aStart ∧ σ_47.env 2 = uP (1, 2) ∧ σ_47.env 6 = uL .own y_15.1 ∧ σ_47.env 7 = uB y_15.2 ∧ σ_47.env 9 = uL .own y_12 ∧ σ_47.env 10 = uL .own y_22.1 ∧ σ_47.env 11 = uB y_22.2 ∧ σ_47.env 12 = uI r_42.2 ∧ σ_47.mem (1, 2) = some [(.l .shr aP.vars.length (encL aP.vars)), (.s (.int .i64 aP.points)), (.l .shr aP.edges.length (encL aP.edges))] ∧ σ_47.mem (1, 8) = some [(.l .own r_42.1.vars.length (encL r_42.1.vars)), (.s (.int .i64 r_42.1.points)), (.l .own r_42.1.edges.length (encL r_42.1.edges))] := by refine ⟨(he_52 1 (by decide) (by decide) (by decide) (by decide)).trans ?_, (he_52 2 (by decide) (by decide) (by decide) (by decide)).trans ?_, (he_52 6 (by decide) (by decide) (by decide) (by decide)).trans ?_, (he_52 7 (by decide) (by decide) (by decide) (by decide)).trans ?_, (he_52 9 (by decide) (by decide) (by decide) (by decide)).trans ?_, (he_52 10 (by decide) (by decide) (by decide) (by decide)).trans ?_, (he_52 11 (by decide) (by decide) (by decide) (by decide)).trans ?_, hk_51, (hm_54 (1, 2) (by decide) (by decide) (by decide)).trans ?_, hx_50.trans (by simp)⟩ <;> simp [h_4, h_8, h_28, h_29, h_35, h_41, hq_49 (1, 2) (by decide) (by decide), hq_49 (1, 8) (by decide) (by decide)]
       have hn_65 : NoBox [(1, 2), (1, 8)] σ_47.mem := by
        intro key hk
        by_cases hl : 1 < key.1 ∨ bigK ≤ key.2
        ·exact hd_53 key hl
        ·rw [hm_54 key (by rintro rfl; simp at hk) (by omega) (by omega)]
         simp at hk
         simp [mem0, hk, h_4, h_8, h_28, h_29, h_35, h_41]
       obtain ⟨r_66, h_67, hp⟩ := zab hp
       obtain ⟨lg_68, e_69⟩ := markO_eq h_67
       have mk_70 := mk32 G_32 G_21 y_12 r_42.2 lg_68
       rw [e_69] at mk_70
       try simp [h_4, h_8, h_28, h_29, h_35, h_41, q_55, q_56, q_57, q_58, q_59, q_60, q_61, q_62, q_63, q_64]
       refine goal_mark 9 12 67 68 69 32 mk_70 (by simp [h_4, h_8, h_28, h_29, h_35, h_41, q_55, q_56, q_57, q_58, q_59, q_60, q_61, q_62, q_63, q_64]) (fun _ => rfl) (by simp [h_4, h_8, h_28, h_29, h_35, h_41, q_55, q_56, q_57, q_58, q_59, q_60, q_61, q_62, q_63, q_64]) (WfE.wfE _) (WfE.wfE _) (fun key hkey => by simp [mem0, key_low hkey 1 2 (by decide), key_low hkey 1 8 (by decide), h_4, h_8, h_28, h_29, h_35, h_41, q_55, q_56, q_57, q_58, q_59, q_60, q_61, q_62, q_63, q_64, hn_65 key (by simp [key_low hkey 1 2 (by decide), key_low hkey 1 8 (by decide)])]) (by simp) (by simp) (by simp) rfl (by decide) fun σ_71 qq_72 hq_73 hx_74 hk_75 he_76 hd_77 hm_78 => ?_
       obtain ⟨q_79, q_80, q_81, q_82, q_83, q_84, q_85, q_86, q_87⟩ : σ_71.env 1 = uL .shr aStart ∧ σ_71.env 2 = uP (1, 2) ∧ σ_71.env 6 = uL .own y_15.1 ∧ σ_71.env 7 = uB y_15.2 ∧ σ_71.env 10 = uL .own y_22.1 ∧ σ_71.env 11 = uB y_22.2 ∧ σ_71.env 12 = uI r_66.2 ∧ σ_71.mem (1, 2) = some [(.l .shr aP.vars.length (encL aP.vars)), (.s (.int .i64 aP.points)), (.l .shr aP.edges.length (encL aP.edges))] ∧ σ_71.mem (1, 8) = some [(.l .own r_42.1.vars.length (encL r_42.1.vars)), (.s (.int .i64 r_42.1.points)), (.l .own r_42.1.edges.length (encL r_42.1.edges))] := by refine ⟨(he_76 1 (by decide) (by decide) (by decide) (by decide) (by decide)).trans ?_, (he_76 2 (by decide) (by decide) (by decide) (by decide) (by decide)).trans ?_, (he_76 6 (by decide) (by decide) (by decide) (by decide) (by decide)).trans ?_, (he_76 7 (by decide) (by decide) (by decide) (by decide) (by decide)).trans ?_, (he_76 10 (by decide) (by decide) (by decide) (by decide) (by decide)).trans ?_, (he_76 11 (by decide) (by decide) (by decide) (by decide) (by decide)).trans ?_, hk_75, (hm_78 (1, 2) (by decide) (by decide)).trans ?_, (hm_78 (1, 8) (by decide) (by decide)).trans ?_⟩ <;> simp [h_4, h_8, h_28, h_29, h_35, h_41, q_55, q_56, q_57, q_58, q_59, q_60, q_61, q_62, q_63, q_64, hq_73 (1, 2) (by decide) (by decide), hq_73 (1, 8) (by decide) (by decide)]
       have hn_88 : NoBox [(1, 2), (1, 8)] σ_71.mem := by
        intro key hk
        by_cases hl : 1 < key.1 ∨ bigK ≤ key.2
        ·exact hd_77 key hl
        ·rw [hm_78 key (by omega) (by omega)]
         simp at hk
         simp [mem0, hk, h_4, h_8, h_28, h_29, h_35, h_41, q_55, q_56, q_57, q_58, q_59, q_60, q_61, q_62, q_63, q_64, hn_65 key (by simp [hk])]
       try simp [h_4, h_8, h_28, h_29, h_35, h_41, q_79, q_80, q_81, q_82, q_83, q_84, q_85, q_86, q_87]
       rcases zad hp with ⟨h_89, hp⟩ | ⟨h_89, hp⟩
       ·try simp at h_89
        cases hp
        simp [Goal, FnEnd, h_4, h_8, h_28, h_29, h_35, h_41, q_79, q_80, q_81, q_82, q_83, q_84, q_85, q_86, q_87, h_89]
       ·try simp at h_89
        obtain ⟨y_90, h_91, hp⟩ := zab hp
        have c_92 := C31_eq h_91
        simp at c_92
        try simp [h_4, h_8, h_28, h_29, h_35, h_41, q_79, q_80, q_81, q_82, q_83, q_84, q_85, q_86, q_87, h_89, c_92]
        rcases zad hp with ⟨h_93, hp⟩ | ⟨h_93, hp⟩
        ·try simp at h_93
         obtain ⟨r_94, h_95, hp⟩ := zab hp
         obtain ⟨lg_96, e_97⟩ := markO_eq h_95
         have mk_98 := mk33 G_33 G_21 y_22.1 1 lg_96
         rw [e_97] at mk_98
         try simp [h_4, h_8, h_28, h_29, h_35, h_41, q_79, q_80, q_81, q_82, q_83, q_84, q_85, q_86, q_87, h_89, h_93]
         refine goal_mark 10 13 83 84 85 33 mk_98 (by simp [h_4, h_8, h_28, h_29, h_35, h_41, q_79, q_80, q_81, q_82, q_83, q_84, q_85, q_86, q_87, h_89, h_93]) (fun _ => rfl) (by simp [h_4, h_8, h_28, h_29, h_35, h_41, q_79, q_80, q_81, q_82, q_83, q_84, q_85, q_86, q_87, h_89, h_93]) (WfE.wfE _) (WfE.wfE _) (fun key hkey => by simp [mem0, key_low hkey 1 2 (by decide), key_low hkey 1 8 (by decide), h_4, h_8, h_28, h_29, h_35, h_41, q_79, q_80, q_81, q_82, q_83, q_84, q_85, q_86, q_87, h_89, h_93, hn_88 key (by simp [key_low hkey 1 2 (by decide), key_low hkey 1 8 (by decide)])]) (by simp) (by simp) (by simp) rfl (by decide) fun σ_99 qq_100 hq_101 hx_102 hk_103 he_104 hd_105 hm_106 => ?_
         obtain ⟨q_107, q_108, q_109, q_110, q_111, q_112, q_113, q_114⟩ : σ_99.env 1 = uL .shr aStart ∧ σ_99.env 2 = uP (1, 2) ∧ σ_99.env 6 = uL .own y_15.1 ∧ σ_99.env 7 = uB y_15.2 ∧ σ_99.env 10 = uL .own r_94.1 ∧ σ_99.env 13 = uI r_94.2 ∧ σ_99.mem (1, 2) = some [(.l .shr aP.vars.length (encL aP.vars)), (.s (.int .i64 aP.points)), (.l .shr aP.edges.length (encL aP.edges))] ∧ σ_99.mem (1, 8) = some [(.l .own r_42.1.vars.length (encL r_42.1.vars)), (.s (.int .i64 r_42.1.points)), (.l .own r_42.1.edges.length (encL r_42.1.edges))] := by refine ⟨(he_104 1 (by decide) (by decide) (by decide) (by decide) (by decide)).trans ?_, (he_104 2 (by decide) (by decide) (by decide) (by decide) (by decide)).trans ?_, (he_104 6 (by decide) (by decide) (by decide) (by decide) (by decide)).trans ?_, (he_104 7 (by decide) (by decide) (by decide) (by decide) (by decide)).trans ?_, hx_102.trans (by simp), hk_103, (hm_106 (1, 2) (by decide) (by decide)).trans ?_, (hm_106 (1, 8) (by decide) (by decide)).trans ?_⟩ <;> simp [h_4, h_8, h_28, h_29, h_35, h_41, q_79, q_80, q_81, q_82, q_83, q_84, q_85, q_86, q_87, h_89, h_93, hq_101 (1, 2) (by decide) (by decide), hq_101 (1, 8) (by decide) (by decide)]
         have hn_115 : NoBox [(1, 2), (1, 8)] σ_99.mem := by
          intro key hk
          by_cases hl : 1 < key.1 ∨ bigK ≤ key.2
          ·exact hd_105 key hl
          ·rw [hm_106 key (by omega) (by omega)]
           simp at hk
           simp [mem0, hk, h_4, h_8, h_28, h_29, h_35, h_41, q_79, q_80, q_81, q_82, q_83, q_84, q_85, q_86, q_87, h_89, h_93, hn_88 key (by simp [hk])]
         obtain ⟨y_116, h_117, hp⟩ := zab hp
         have c_118 := C34_eq h_117
         simp at c_118
         try simp [h_4, h_8, h_28, h_29, h_35, h_41, h_89, h_93, q_107, q_108, q_109, q_110, q_111, q_112, q_113, q_114, c_118]
         rcases zad hp with ⟨h_119, hp⟩ | ⟨h_119, hp⟩
         ·try simp at h_119
          cases hp
          simp [Goal, FnEnd, h_4, h_8, h_28, h_29, h_35, h_41, h_89, h_93, q_107, q_108, q_109, q_110, q_111, q_112, q_113, q_114, h_119]
         ·try simp at h_119
          try simp [h_4, h_8, h_28, h_29, h_35, h_41, h_89, h_93, q_107, q_108, q_109, q_110, q_111, q_112, q_113, q_114, h_119]
          rcases zad hp with ⟨h_120, hp⟩ | ⟨h_120, hp⟩
          ·try simp at h_120
           cases hp
           simp [Goal, FnEnd, h_4, h_8, h_28, h_29, h_35, h_41, h_89, h_93, q_107, q_108, q_109, q_110, q_111, q_112, q_113, q_114, h_119, h_120]
          ·try simp at h_120
           obtain ⟨y_121, h_122, hp⟩ := zab hp
           have c_123 := C11_eq h_122
           simp at c_123
           obtain ⟨y_124, h_125, hp⟩ := zab hp
           have c_126 := C26_eq h_125
           simp at c_126
           obtain ⟨y_127, h_128, hp⟩ := zab hp
           have c_129 := C30_eq h_128
           simp at c_129
           obtain ⟨y_130, h_131, hp⟩ := zab hp
           have c_132 := C31_eq h_131
           simp at c_132
           try simp [h_4, h_8, h_28, h_29, h_35, h_41, h_89, h_93, q_107, q_108, q_109, q_110, q_111, q_112, q_113, q_114, h_119, h_120, c_123, c_126, c_129, c_132]
           rcases zad hp with ⟨h_133, hp⟩ | ⟨h_133, hp⟩
           ·try simp at h_133
            try simp [h_4, h_8, h_28, h_29, h_35, h_41, h_89, h_93, q_107, q_108, q_109, q_110, q_111, q_112, q_113, q_114, h_119, h_120, h_133]
            rcases zad hp with ⟨h_134, hp⟩ | ⟨h_134, hp⟩
            ·try simp at h_134
             cases hp
             simp [Goal, FnEnd, h_4, h_8, h_28, h_29, h_35, h_41, h_89, h_93, q_107, q_108, q_109, q_110, q_111, q_112, q_113, q_114, h_119, h_120, h_133, h_134]
            ·try simp at h_134
             obtain ⟨y_135, h_136, hp⟩ := zab hp
             cases Option.some.inj (h_117.symm.trans h_136)
             cases hp
             simp [Goal, FnEnd, h_4, h_8, h_28, h_29, h_35, h_41, h_89, h_93, q_107, q_108, q_109, q_110, q_111, q_112, q_113, q_114, h_119, h_120, h_133, h_134, c_118]
           ·try simp at h_133
            cases hp
            simp [Goal, FnEnd, h_4, h_8, h_28, h_29, h_35, h_41, h_89, h_93, q_107, q_108, q_109, q_110, q_111, q_112, q_113, q_114, h_119, h_120, h_133]
        ·try simp at h_93
         cases hp
         simp [Goal, FnEnd, h_4, h_8, h_28, h_29, h_35, h_41, q_79, q_80, q_81, q_82, q_83, q_84, q_85, q_86, q_87, h_89, h_93]
      ·try simp at h_41
       cases hp
       simp [Goal, FnEnd, h_4, h_8, h_28, h_29, h_35, h_41]
     ·try simp at h_35
      cases hp
      simp [Goal, FnEnd, h_4, h_8, h_28, h_29, h_35]
   ·try simp at h_28
    cases hp
    simp [Goal, FnEnd, h_4, h_8, h_28]
theorem pc5 : PC Tryz.prog 5 C5 := pc_of (g := g5) (zah _ g5_s.2.1 ⟨pc8, pc11, pc16, pc24, pc26, pc28, pc29, pc30, pc31, pc34, pc110, trivial⟩) (ent Tryz.func5) fun x y h => w5 h
end Go.Proofs

