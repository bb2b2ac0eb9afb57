import Derived.Test.YtdjpaoikfigfhaaEvA15
set_option linter.unusedSimpArgs false
set_option linter.unusedVariables false
set_option linter.unnecessarySimpa false
namespace Go.Proofs
open Go.Ev
abbrev G257 (g : Cfg) : Prop := Has Try.prog g 257 Try.f257 [37] [(4, { hd := [0, 1, 2, 3, 23, 24], bx := [], ex := [], rt := [5, 6] })] [(127, C127), (258, C258), (259, C259)] []
set_option maxHeartbeats 4000000 in
set_option maxRecDepth 100000 in
theorem wI257 {g : Cfg} (G : G257 g) (fu : Nat) : ∀ {d : Nat} {mem : Mem} (hT : Tight d mem) {K_1 : Key} {K_2 : Key} {K_3 : Key} {to_ : (List Int)} {c0 : TStructure} {c1 : TStructure} {m_0 : Md} (hm_0 : LentM m_0) {mk_1 : Md} (hk_1 : K_1.1 ≤ d) (hb_1 : mem K_1 = some [(.l mk_1 c0.nodes.length (encL c0.nodes)), (.l mk_1 c0.next.length (encL c0.next))]) {mk_2 : Md} (hk_2 : K_2.1 ≤ d) (hb_2 : mem K_2 = some [(.l mk_2 c1.nodes.length (encL c1.nodes)), (.l mk_2 c1.next.length (encL c1.next))]) (hk_3 : K_3.1 ≤ d) (hb_3 : mem K_3 = some [.fn 257 [(K_1, 0), (K_2, 0), (K_3, 0)]]) {y} (hp : fixN R_impl_FindEmbedding_1 fu (to_, c0, c1, ()) = some y), ∃ r, callo g d 257 [av m_0 to_, .one (.ptr K_1 0), .one (.ptr K_2 0), .one (.ptr K_3 0)] mem = some (r, mem) ∧ ∃ me_0 : Md, r = .tu [tupM me_0 y.1, tup y.2] := by
  have gP := G.P; have gt := G.tk; have gr := G.ro; have gg := G.gh
  have i_257 := G.no
  have k_4 := G.kp (4, { hd := [0, 1, 2, 3, 23, 24], bx := [], ex := [], rt := [5, 6] }) (by simp)
  have c_127 := G.cs (127, C127) (by simp)
  have c_258 := G.cs (258, C258) (by simp)
  have c_259 := G.cs (259, C259) (by simp)
  induction fu with
  | zero => intros; exact absurd ‹fixN _ 0 _ = some _› (by simp [fixN])
  | succ fu ih =>
    intro d mem hT K_1 K_2 K_3 to_ c0 c1 m_0 hm_0 mk_1 hk_1 hb_1 mk_2 hk_2 hb_2 hk_3 hb_3 y hp
    have hT2 : memKill (fun k => decide (d < k.1)) mem = mem := hT
    have nk_1 : ∀ t, (K_1 = (d + 1, t)) = False := fun t => by simp; intro h; rw [h] at hk_1; simp at hk_1; omega
    have nk_2 : ∀ t, (K_2 = (d + 1, t)) = False := fun t => by simp; intro h; rw [h] at hk_2; simp at hk_2; omega
    have nk_3 : ∀ t, (K_3 = (d + 1, t)) = False := fun t => by simp; intro h; rw [h] at hk_3; simp at hk_3; omega
    refine start_ex (Try.f257.body.getD .skip) [.tmp 5, .tmp 6] G Try.func257 (by kernel_rfl) (by simp [Try.ntmps257]) rfl ?_
    replace hp : B_impl_FindEmbedding_1 (fun to_ c0 c1 => fixN R_impl_FindEmbedding_1 fu (to_, c0, c1, ())) to_ c0 c1 = some y := hp
    unfold B_impl_FindEmbedding_1 at hp
    simp [Try.f257, gP, gt, gr, gg, i_257, hm_0.copy, hm_0.elem, hb_1, nk_1, hb_2, nk_2, hb_3, nk_3]
    rcases cond_cases hp with ⟨h_1, hp⟩ | ⟨h_1, hp⟩
    · try simp at h_1
      obtain ⟨y_2, h_3, hp⟩ := bind_some hp
      have c_4 := C258_eq h_3
      simp at c_4
      cases hp
      simp [Goal, FnEndE, memKill_hi, retR, rsrc, RSrc.val, nodupR, nodup, tupPart, gP, gt, gr, gg, c_258, i_257, hm_0.copy, hm_0.elem, hb_1, nk_1, hb_2, nk_2, hb_3, nk_3, h_1, c_4, hT2]
    · try simp at h_1
      try simp [gP, gt, gr, gg, c_127, c_258, c_259, i_257, hm_0.copy, hm_0.elem, hb_1, nk_1, hb_2, nk_2, hb_3, nk_3, h_1]
      obtain ⟨r_36, h_37, hp⟩ := bind_some hp
      obtain ⟨I_7, I_7_⟩ : ∃ I : Int → St → Prop, I = (fun (s_5 : Int) (σ : St) => σ.env 0 = .one (.l m_0 to_.length (encL to_)) ∧ σ.env 1 = .one (.ptr K_1 0) ∧ σ.env 2 = .one (.ptr K_2 0) ∧ σ.env 3 = .one (.ptr K_3 0) ∧ σ.env 23 = .one (.s (.int .i64 (c1.nodes.length : Int))) ∧ σ.env 24 = .one (.s (.int .i64 s_5)) ∧ σ.mem K_1 = some [(.l mk_1 c0.nodes.length (encL c0.nodes)), (.l mk_1 c0.next.length (encL c0.next))] ∧ σ.mem K_2 = some [(.l mk_2 c1.nodes.length (encL c1.nodes)), (.l mk_2 c1.next.length (encL c1.next))] ∧ σ.mem K_3 = some [(.fn 257 [(K_1, 0), (K_2, 0), (K_3, 0)])] ∧ Tight (d + 1) σ.mem ∧ Agree d mem σ.mem ∧ NoBoxD d [] σ.mem) := ⟨_, rfl⟩
      obtain ⟨X_8, X_8_⟩ : ∃ X : (((List Int) × Bool) ⊕ (Unit)) → Out → Prop, X = (fun (r_36 : ((List Int) × Bool) ⊕ (Unit)) (out : Out) => Sum.elim (fun r_36 => ∃ σ : St, out = .ret σ ∧ (∃ mq_38 : Md, σ.env 5 = .one (.l mq_38 r_36.1.length (encL r_36.1))) ∧ σ.env 6 = .one (.s (.bool r_36.2)) ∧ σ.mem K_1 = some [(.l mk_1 c0.nodes.length (encL c0.nodes)), (.l mk_1 c0.next.length (encL c0.next))] ∧ σ.mem K_2 = some [(.l mk_2 c1.nodes.length (encL c1.nodes)), (.l mk_2 c1.next.length (encL c1.next))] ∧ σ.mem K_3 = some [(.fn 257 [(K_1, 0), (K_2, 0), (K_3, 0)])] ∧ Tight (d + 1) σ.mem ∧ Agree d mem σ.mem ∧ NoBoxD d [] σ.mem) (fun r_36 => ∃ σ : St, out = .exit 0 σ ∧ σ.mem K_1 = some [(.l mk_1 c0.nodes.length (encL c0.nodes)), (.l mk_1 c0.next.length (encL c0.next))] ∧ σ.mem K_2 = some [(.l mk_2 c1.nodes.length (encL c1.nodes)), (.l mk_2 c1.next.length (encL c1.next))] ∧ σ.mem K_3 = some [(.fn 257 [(K_1, 0), (K_2, 0), (K_3, 0)])] ∧ Tight (d + 1) σ.mem ∧ Agree d mem σ.mem ∧ NoBoxD d [] σ.mem) r_36) := ⟨_, rfl⟩
      refine loopP ({ hd := [0, 1, 2, 3, 23, 24], bx := [], ex := [], rt := [5, 6] }) I_7 X_8 h_37 (by exact k_4) ?_ ?_ ?_
      · rw [I_7_]
        refine ⟨?_, ?_, ?_, ?_, ?_, ?_, ?_, ?_, ?_, (by repeat (first | exact tight_mem0 _ | exact hT.up | exact hT | refine Tight.restrict ?_ | refine Tight.upd ?_ (by simp) (by simp))), (by repeat (first | exact fun k hk => rfl | refine Agree.restrict hT ?_ | refine Agree.upd ?_ (by simp))), NoBoxD.restrict (by intro k hd hk hb; simp at hk hb; simp [hk, hb, gP, gt, gr, gg, c_127, c_258, c_259, i_257, hm_0.copy, hm_0.elem, hb_1, nk_1, hb_2, nk_2, hb_3, nk_3, h_1, hT.none hd])⟩ <;> simp [restrict_env, restrict_mem, gP, gt, gr, gg, c_127, c_258, c_259, i_257, hm_0.copy, hm_0.elem, hb_1, nk_1, hb_2, nk_2, hb_3, nk_3, h_1]
      · intro s_5 σ_9 a_6 hI hp
        rw [I_7_] at hI
        obtain ⟨q_10, q_11, q_12, q_13, q_14, q_15, q_16, q_17, q_18, ht_19, ha_20, hn_21⟩ := hI
        try simp [gP, gt, gr, gg, c_127, c_258, c_259, i_257, hm_0.copy, hm_0.elem, hb_1, nk_1, hb_2, nk_2, hb_3, nk_3, h_1, q_10, q_11, q_12, q_13, q_14, q_15, q_16, q_17, q_18]
        rcases cond_cases hp with ⟨h_22, hp⟩ | ⟨h_22, hp⟩
        · try simp at h_22
          obtain ⟨y_23, h_24, hp⟩ := bind_some hp
          have c_25 := C127_eq h_24
          simp at c_25
          obtain ⟨_, h_26, hp⟩ := bind_some hp
          have b_27 := room_ok h_26
          try simp at b_27
          obtain ⟨y_28, h_29, hp⟩ := bind_some hp
          have c_30 := C259_eq h_29
          simp at c_30
          try simp [gP, gt, gr, gg, c_127, c_258, c_259, i_257, hm_0.copy, hm_0.elem, hb_1, nk_1, hb_2, nk_2, hb_3, nk_3, h_1, q_10, q_11, q_12, q_13, q_14, q_15, q_16, q_17, q_18, h_22, c_25, b_27, c_30]
          rcases cond_cases hp with ⟨h_31, hp⟩ | ⟨h_31, hp⟩
          · try simp at h_31
            obtain ⟨y_32, h_33, hp⟩ := bind_some hp
            try simp [gP, gt, gr, gg, c_127, c_258, c_259, i_257, hm_0.copy, hm_0.elem, hb_1, nk_1, hb_2, nk_2, hb_3, nk_3, h_1, q_10, q_11, q_12, q_13, q_14, q_15, q_16, q_17, q_18, h_22, h_31]
            refine goal_callE [av .bor (y_23 ++ [s_5]), .one (.ptr K_1 0), .one (.ptr K_2 0), .one (.ptr K_3 0)] (fun r => ∃ me_34 : Md, r = .tu [tupM me_34 y_32.1, tup y_32.2]) (by simp [gP, gt, gr, gg, c_127, c_258, c_259, i_257, hm_0.copy, hm_0.elem, hb_1, nk_1, hb_2, nk_2, hb_3, nk_3, h_1, q_10, q_11, q_12, q_13, q_14, q_15, q_16, q_17, q_18, h_22, h_31]) (ih (mk_1 := mk_1) (mk_2 := mk_2) (by repeat (first | exact ht_19 | exact tight_mem0 _ | exact hT.up | exact hT | (simp only [q_10, q_11, q_12, q_13, q_14, q_15, q_16, q_17, q_18]; done) | refine Tight.upd ?_ (by simp) (by simp))) (.inr rfl) (Nat.le_succ_of_le hk_1) (by simp [gP, gt, gr, gg, c_127, c_258, c_259, i_257, hm_0.copy, hm_0.elem, hb_1, nk_1, hb_2, nk_2, hb_3, nk_3, h_1, q_10, q_11, q_12, q_13, q_14, q_15, q_16, q_17, q_18, h_22, h_31]) (Nat.le_succ_of_le hk_2) (by simp [gP, gt, gr, gg, c_127, c_258, c_259, i_257, hm_0.copy, hm_0.elem, hb_1, nk_1, hb_2, nk_2, hb_3, nk_3, h_1, q_10, q_11, q_12, q_13, q_14, q_15, q_16, q_17, q_18, h_22, h_31]) (Nat.le_succ_of_le hk_3) (by simp [gP, gt, gr, gg, c_127, c_258, c_259, i_257, hm_0.copy, hm_0.elem, hb_1, nk_1, hb_2, nk_2, hb_3, nk_3, h_1, q_10, q_11, q_12, q_13, q_14, q_15, q_16, q_17, q_18, h_22, h_31]) h_33) ?_
            rintro _ ⟨me_34, rfl⟩
            try simp [gP, gt, gr, gg, c_127, c_258, c_259, i_257, hm_0.copy, hm_0.elem, hb_1, nk_1, hb_2, nk_2, hb_3, nk_3, h_1, q_10, q_11, q_12, q_13, q_14, q_15, q_16, q_17, q_18, h_22, h_31]
            rcases cond_cases hp with ⟨h_35, hp⟩ | ⟨h_35, hp⟩
            · try simp at h_35
              cases hp
              try simp [gP, gt, gr, gg, c_127, c_258, c_259, i_257, hm_0.copy, hm_0.elem, hb_1, nk_1, hb_2, nk_2, hb_3, nk_3, h_1, q_10, q_11, q_12, q_13, q_14, q_15, q_16, q_17, q_18, h_22, h_31, h_35]
              refine goal_outR ?_
              rw [X_8_]
              refine ⟨_, rfl, ⟨me_34.copy, by simp [restrict_env, gP, gt, gr, gg, c_127, c_258, c_259, i_257, hm_0.copy, hm_0.elem, hb_1, nk_1, hb_2, nk_2, hb_3, nk_3, h_1, q_10, q_11, q_12, q_13, q_14, q_15, q_16, q_17, q_18, h_22, h_31, h_35]⟩, ?_, ?_, ?_, ?_, (by repeat (first | exact ht_19 | exact tight_mem0 _ | exact hT.up | exact hT | refine Tight.restrict ?_ | refine Tight.upd ?_ (by simp) (by simp))), (by repeat (first | exact ha_20 | exact fun k hk => rfl | refine Agree.restrict hT ?_ | refine Agree.upd ?_ (by simp))), NoBoxD.restrict (by intro k hd hk hb; simp at hk hb; simp [hk, hb, gP, gt, gr, gg, c_127, c_258, c_259, i_257, hm_0.copy, hm_0.elem, hb_1, nk_1, hb_2, nk_2, hb_3, nk_3, h_1, q_10, q_11, q_12, q_13, q_14, q_15, q_16, q_17, q_18, h_22, h_31, h_35, hn_21 k hd (by simp [hk, hb])])⟩ <;> simp [restrict_env, restrict_mem, gP, gt, gr, gg, c_127, c_258, c_259, i_257, hm_0.copy, hm_0.elem, hb_1, nk_1, hb_2, nk_2, hb_3, nk_3, h_1, q_10, q_11, q_12, q_13, q_14, q_15, q_16, q_17, q_18, h_22, h_31, h_35]
            · try simp at h_35
              cases hp
              try simp [gP, gt, gr, gg, c_127, c_258, c_259, i_257, hm_0.copy, hm_0.elem, hb_1, nk_1, hb_2, nk_2, hb_3, nk_3, h_1, q_10, q_11, q_12, q_13, q_14, q_15, q_16, q_17, q_18, h_22, h_31, h_35]
              refine goal_next ?_
              rw [I_7_]
              refine ⟨?_, ?_, ?_, ?_, ?_, ?_, ?_, ?_, ?_, (by repeat (first | exact ht_19 | exact tight_mem0 _ | exact hT.up | exact hT | refine Tight.restrict ?_ | refine Tight.upd ?_ (by simp) (by simp))), (by repeat (first | exact ha_20 | exact fun k hk => rfl | refine Agree.restrict hT ?_ | refine Agree.upd ?_ (by simp))), NoBoxD.restrict (by intro k hd hk hb; simp at hk hb; simp [hk, hb, gP, gt, gr, gg, c_127, c_258, c_259, i_257, hm_0.copy, hm_0.elem, hb_1, nk_1, hb_2, nk_2, hb_3, nk_3, h_1, q_10, q_11, q_12, q_13, q_14, q_15, q_16, q_17, q_18, h_22, h_31, h_35, hn_21 k hd (by simp [hk, hb])])⟩ <;> simp [restrict_env, restrict_mem, gP, gt, gr, gg, c_127, c_258, c_259, i_257, hm_0.copy, hm_0.elem, hb_1, nk_1, hb_2, nk_2, hb_3, nk_3, h_1, q_10, q_11, q_12, q_13, q_14, q_15, q_16, q_17, q_18, h_22, h_31, h_35]
          · try simp at h_31
            cases hp
            try simp [gP, gt, gr, gg, c_127, c_258, c_259, i_257, hm_0.copy, hm_0.elem, hb_1, nk_1, hb_2, nk_2, hb_3, nk_3, h_1, q_10, q_11, q_12, q_13, q_14, q_15, q_16, q_17, q_18, h_22, h_31]
            refine goal_next ?_
            rw [I_7_]
            refine ⟨?_, ?_, ?_, ?_, ?_, ?_, ?_, ?_, ?_, (by repeat (first | exact ht_19 | exact tight_mem0 _ | exact hT.up | exact hT | refine Tight.restrict ?_ | refine Tight.upd ?_ (by simp) (by simp))), (by repeat (first | exact ha_20 | exact fun k hk => rfl | refine Agree.restrict hT ?_ | refine Agree.upd ?_ (by simp))), NoBoxD.restrict (by intro k hd hk hb; simp at hk hb; simp [hk, hb, gP, gt, gr, gg, c_127, c_258, c_259, i_257, hm_0.copy, hm_0.elem, hb_1, nk_1, hb_2, nk_2, hb_3, nk_3, h_1, q_10, q_11, q_12, q_13, q_14, q_15, q_16, q_17, q_18, h_22, h_31, hn_21 k hd (by simp [hk, hb])])⟩ <;> simp [restrict_env, restrict_mem, gP, gt, gr, gg, c_127, c_258, c_259, i_257, hm_0.copy, hm_0.elem, hb_1, nk_1, hb_2, nk_2, hb_3, nk_3, h_1, q_10, q_11, q_12, q_13, q_14, q_15, q_16, q_17, q_18, h_22, h_31]
        · try simp at h_22
          cases hp
          try simp [gP, gt, gr, gg, c_127, c_258, c_259, i_257, hm_0.copy, hm_0.elem, hb_1, nk_1, hb_2, nk_2, hb_3, nk_3, h_1, q_10, q_11, q_12, q_13, q_14, q_15, q_16, q_17, q_18, h_22]
          refine goal_outX ?_
          rw [X_8_]
          refine ⟨_, rfl, ?_, ?_, ?_, (by repeat (first | exact ht_19 | exact tight_mem0 _ | exact hT.up | exact hT | refine Tight.restrict ?_ | refine Tight.upd ?_ (by simp) (by simp))), (by repeat (first | exact ha_20 | exact fun k hk => rfl | refine Agree.restrict hT ?_ | refine Agree.upd ?_ (by simp))), NoBoxD.restrict (by intro k hd hk hb; simp at hk hb; simp [hk, hb, gP, gt, gr, gg, c_127, c_258, c_259, i_257, hm_0.copy, hm_0.elem, hb_1, nk_1, hb_2, nk_2, hb_3, nk_3, h_1, q_10, q_11, q_12, q_13, q_14, q_15, q_16, q_17, q_18, h_22, hn_21 k hd (by simp [hk, hb])])⟩ <;> simp [restrict_env, restrict_mem, gP, gt, gr, gg, c_127, c_258, c_259, i_257, hm_0.copy, hm_0.elem, hb_1, nk_1, hb_2, nk_2, hb_3, nk_3, h_1, q_10, q_11, q_12, q_13, q_14, q_15, q_16, q_17, q_18, h_22]
      · intro out hX
        rw [X_8_] at hX
        rcases r_36 with r_36 | r_36
        · simp only [Sum.elim_inl, Sum.elim_inr] at hX hp
          obtain ⟨σ_39, rfl, ⟨mq_38, q_40⟩, q_41, q_42, q_43, q_44, ht_45, ha_46, hn_47⟩ := hX
          cases hp
          simp [Goal, FnEndE, memKill_hi, retR, rsrc, RSrc.val, nodupR, nodup, tupPart, gP, gt, gr, gg, c_127, c_258, c_259, i_257, hm_0.copy, hm_0.elem, hb_1, nk_1, hb_2, nk_2, hb_3, nk_3, h_1, q_40, q_41, q_42, q_43, q_44, kill_back ha_46 hT]
        · simp only [Sum.elim_inl, Sum.elim_inr] at hX hp
          obtain ⟨σ_48, rfl, q_49, q_50, q_51, ht_52, ha_53, hn_54⟩ := hX
          cases hp
          simp [Goal, FnEndE, memKill_hi, retR, rsrc, RSrc.val, nodupR, nodup, tupPart, gP, gt, gr, gg, c_127, c_258, c_259, i_257, hm_0.copy, hm_0.elem, hb_1, nk_1, hb_2, nk_2, hb_3, nk_3, h_1, q_49, q_50, q_51, kill_back ha_53 hT]

abbrev G236 (g : Cfg) : Prop := Has Try.prog g 236 Try.f236 [10] [] [(127, C127), (258, C258), (259, C259)] []
set_option maxHeartbeats 4000000 in
set_option maxRecDepth 100000 in
theorem wI236 {g : Cfg} (G : G236 g) (G_257 : G257 g) {d : Nat} {mem : Mem} (hT : Tight d mem)  {s : TStructure} {t : TStructure} {m_0 : Md} (hm_0 : LentM m_0) {m_1 : Md} (hm_1 : LentM m_1) {y} (hp : impl_FindEmbedding s t = some y) : ∃ r, callo g d 236 [av m_0 s, av m_1 t] mem = some (r, mem) ∧ ∃ me_0 : Md, r = .tu [tupM me_0 y.1, tup y.2] := by
  have gP := G.P; have gt := G.tk; have gr := G.ro; have gg := G.gh
  have i_257 := G_257.no
  have c_127 := G.cs (127, C127) (by simp)
  have c_258 := G.cs (258, C258) (by simp)
  have c_259 := G.cs (259, C259) (by simp)
  have hT2 : memKill (fun k => decide (d < k.1)) mem = mem := hT
  have hm0 : ∀ t, mem (d + 1, t) = none := fun t => hT.none (by simp)
  refine start_ex (Try.f236.body.getD .skip) [.tmp 4, .tmp 5] G Try.func236 (by kernel_rfl) (by simp [Try.ntmps236]) rfl ?_
  unfold impl_FindEmbedding at hp
  obtain ⟨y_1, h_2, hp⟩ := bind_some hp
  simp [Try.f236, gP, gt, gr, gg, hm0, c_127, c_258, c_259, i_257, hm_0.copy, hm_0.elem, hm_1.copy, hm_1.elem]
  refine goal_callE [av .bor [], .one (.ptr (d + 1, 2) 0), .one (.ptr (d + 1, 3) 0), .one (.ptr (d + 1, 6) 0)] (fun r => ∃ me_3 : Md, r = .tu [tupM me_3 y_1.1, tup y_1.2]) (by simp [gP, gt, gr, gg, hm0, c_127, c_258, c_259, i_257, hm_0.copy, hm_0.elem, hm_1.copy, hm_1.elem]) (wI257 (mk_1 := m_0) (mk_2 := m_1) G_257 _ (by repeat (first | exact tight_mem0 _ | exact hT.up | exact hT | (simp only [true_and]; done) | refine Tight.upd ?_ (by simp) (by simp))) (.inr rfl) (by simp) (by simp [gP, gt, gr, gg, hm0, c_127, c_258, c_259, i_257, hm_0.copy, hm_0.elem, hm_1.copy, hm_1.elem]) (by simp) (by simp [gP, gt, gr, gg, hm0, c_127, c_258, c_259, i_257, hm_0.copy, hm_0.elem, hm_1.copy, hm_1.elem]) (by simp) (by simp [gP, gt, gr, gg, hm0, c_127, c_258, c_259, i_257, hm_0.copy, hm_0.elem, hm_1.copy, hm_1.elem]) (fixO_some h_2).choose_spec) ?_
  rintro _ ⟨me_3, rfl⟩
  try simp [gP, gt, gr, gg, hm0, c_127, c_258, c_259, i_257, hm_0.copy, hm_0.elem, hm_1.copy, hm_1.elem]
  rcases cond_cases hp with ⟨h_4, hp⟩ | ⟨h_4, hp⟩
  · try simp at h_4
    cases hp
    simp [Goal, FnEndE, memKill_hi, retR, rsrc, RSrc.val, nodupR, nodup, tupPart, gP, gt, gr, gg, hm0, c_127, c_258, c_259, i_257, hm_0.copy, hm_0.elem, hm_1.copy, hm_1.elem, h_4, hT2]
  · try simp at h_4
    cases hp
    simp [Goal, FnEndE, memKill_hi, retR, rsrc, RSrc.val, nodupR, nodup, tupPart, gP, gt, gr, gg, hm0, c_127, c_258, c_259, i_257, hm_0.copy, hm_0.elem, hm_1.copy, hm_1.elem, h_4, hT2]

noncomputable def C186 : List AV → Option AV := specP (X := TStructure × TStructure × Unit) fun x => impl_IsEmbedded x.1 x.2.1
theorem C186_eq {s t} {y} (h : impl_IsEmbedded s t = some y) : C186 [av .shr s, av .shr t] = some (Res.res y) := specP_eq (X := TStructure × TStructure × Unit) (F := fun x => impl_IsEmbedded x.1 x.2.1) (x := (s, t, ())) h
noncomputable def g186 : Cfg := { P := Try.prog, take := [(186, 7), (236, 10), (257, 37)], keep := [((257, 4), { hd := [0, 1, 2, 3, 23, 24], bx := [], ex := [], rt := [5, 6] })], gho := [], ctx := [(127, C127), (258, C258), (259, C259)] }
@[simp] theorem g186_P : g186.P = Try.prog := rfl
@[simp] theorem g186_t : g186.take = [(186, 7), (236, 10), (257, 37)] := rfl
@[simp] theorem g186_g : g186.gho = [] := rfl
@[simp] theorem g186_r : g186.ro = [] := rfl
@[simp] theorem g186_w : g186.away = [] := by rw [g186]
@[simp] theorem g186_127 : lookN 127 g186.ctx = some C127 := rfl
@[simp] theorem g186_258 : lookN 258 g186.ctx = some C258 := rfl
@[simp] theorem g186_259 : lookN 259 g186.ctx = some C259 := rfl
@[simp] theorem g186_236 : lookN 236 g186.ctx = none := rfl
@[simp] theorem g186_257 : lookN 257 g186.ctx = none := rfl
set_option maxHeartbeats 4000000 in
set_option maxRecDepth 100000 in
theorem w186 {s t} {y} (hp : impl_IsEmbedded s t = some y) : ∃ m, callo g186 0 186 [av .shr s, av .shr t] mem0 = some (Res.res y, m) := by
  have G_236 : G236 g186 := ⟨rfl, by kernel_rfl, rfl, fun t => by simp, noAway (fun t => by simp) (by simp), fun i => by simp [lookK], by simp [g186, lookK], by simp⟩
  have G_257 : G257 g186 := ⟨rfl, by kernel_rfl, rfl, fun t => by simp, noAway (fun t => by simp) (by simp), fun i => by simp [lookK], by simp [g186, lookK], by simp⟩
  refine start_fn (Try.f186.body.getD .skip) [.tmp 4] rfl rfl Try.func186 (by kernel_rfl) (by kernel_rfl) (by simp [Try.ntmps186]) rfl ?_
  unfold impl_IsEmbedded at hp
  obtain ⟨y_1, h_2, hp⟩ := bind_some hp
  simp [Try.f186]
  refine goal_callE [av .shr s, av .shr t] (fun r => ∃ me_3 : Md, r = .tu [tupM me_3 y_1.1, tup y_1.2]) (by simp) (wI236 G_236 G_257 (by repeat (first | exact tight_mem0 _ | exact hT.up | exact hT | (simp only [true_and]; done) | refine Tight.upd ?_ (by simp) (by simp))) (.inl rfl) (.inl rfl) h_2) ?_
  rintro _ ⟨me_3, rfl⟩
  cases hp
  simp [Goal, FnEnd]
theorem pc186 : PC Try.prog 186 C186 := pc_of (g := g186) (ctxOK_of [(127, C127), (258, C258), (259, C259)] rfl ⟨pc127, pc258, pc259, trivial⟩) ⟨Try.f186, Try.func186, by kernel_rfl, by kernel_rfl⟩ fun x y h => w186 h

abbrev G235 (g : Cfg) : Prop := Has Try.prog g 235 Try.f235 [] [(2, { hd := [0, 1, 7, 8], bx := [], ex := [], rt := [4] })] [] []
set_option maxHeartbeats 4000000 in
set_option maxRecDepth 100000 in
theorem wI235 {g : Cfg} (G : G235 g) {d : Nat} {mem : Mem} (hT : Tight d mem)  {s : (List TStructure)} {f_ : (TStructure → Option (Bool))} {m_0 : Md} (hm_0 : LentM m_0) {fk_f_ : Nat} {caps_f_ : List (Key × Nat)} (hl_f_ : ∀ c ∈ caps_f_, c.1.1 ≤ d) (hc_f_ : Clo g d mem fk_f_ caps_f_ fun x : TStructure × Unit => f_ x.1) {y} (hp : slices_IndexFunc_Structure s f_ = some y) : callo g d 235 [av m_0 s, .one (.fn fk_f_ caps_f_)] mem = some (Res.res y, mem) := by
  have gP := G.P; have gt := G.tk; have gr := G.ro; have gg := G.gh
  have k_2 := G.kp (2, { hd := [0, 1, 7, 8], bx := [], ex := [], rt := [4] }) (by simp)
  have hT2 : memKill (fun k => decide (d < k.1)) mem = mem := hT
  refine start_in (Try.f235.body.getD .skip) [.tmp 4] G Try.func235 (by kernel_rfl) (by simp [Try.ntmps235]) rfl ?_
  unfold slices_IndexFunc_Structure at hp
  simp [Try.f235, gP, gt, gr, gg, hm_0.copy, hm_0.elem]
  obtain ⟨r_20, h_21, hp⟩ := bind_some hp
  obtain ⟨I_3, I_3_⟩ : ∃ I : Int → St → Prop, I = (fun (s_1 : Int) (σ : St) => σ.env 0 = .one (.l m_0 s.length (encL s)) ∧ σ.env 1 = .one (.fn fk_f_ caps_f_) ∧ σ.env 7 = .one (.s (.int .i64 (s.length : Int))) ∧ σ.env 8 = .one (.s (.int .i64 s_1)) ∧ σ.mem = mem) := ⟨_, rfl⟩
  obtain ⟨X_4, X_4_⟩ : ∃ X : ((Int) ⊕ (Unit)) → Out → Prop, X = (fun (r_20 : (Int) ⊕ (Unit)) (out : Out) => Sum.elim (fun r_20 => ∃ σ : St, out = .ret σ ∧ σ.env 4 = .one (.s (.int .i64 r_20)) ∧ σ.mem = mem) (fun r_20 => ∃ σ : St, out = .exit 0 σ ∧ σ.mem = mem) r_20) := ⟨_, rfl⟩
  refine loopP ({ hd := [0, 1, 7, 8], bx := [], ex := [], rt := [4] }) I_3 X_4 h_21 (by exact k_2) ?_ ?_ ?_
  · rw [I_3_]
    refine ⟨?_, by simp [restrict_env, gP, gt, gr, gg, hm_0.copy, hm_0.elem] <;> first | (intro x x1 x2 hx; have h0 := hl_f_ _ hx; simp at h0; omega) | (intro x hx; have h0 := hl_f_ _ hx; simp at h0; omega), ?_, ?_, ?_⟩ <;> simp [restrict_env, restrict_mem, gP, gt, gr, gg, hm_0.copy, hm_0.elem]
  · intro s_1 σ_5 a_2 hI hp
    rw [I_3_] at hI
    obtain ⟨q_6, q_7, q_8, q_9, q_10⟩ := hI
    try simp [gP, gt, gr, gg, hm_0.copy, hm_0.elem, q_6, q_7, q_8, q_9, q_10]
    rcases cond_cases hp with ⟨h_11, hp⟩ | ⟨h_11, hp⟩
    · try simp at h_11
      obtain ⟨e_12, h_13, hp⟩ := bind_some hp
      have b_14 := at_lo h_13
      have b_15 := at_hi h_13
      try simp at b_14
      try simp at b_15
      have c_16 := seg_at' h_13 0 2 (by decide) (ds := [.sl e_12.nodes.length (encL e_12.nodes), .sl e_12.next.length (encL e_12.next)]) rfl
      try simp at c_16
      obtain ⟨y_17, h_18, hp⟩ := bind_some hp
      try simp [gP, gt, gr, gg, hm_0.copy, hm_0.elem, q_6, q_7, q_8, q_9, q_10, h_11, b_14, b_15, c_16]
      refine goal_call ([av m_0 e_12] ++ capsAV caps_f_) (Res.res y_17) (by simp [capsAV, gP, gt, gr, gg, hm_0.copy, hm_0.elem, q_6, q_7, q_8, q_9, q_10, h_11]) (hc_f_ _ _ _ (e_12, ()) _ (Nat.le_succ d) (fun k hk => by first | rfl | rw [q_10]) (by repeat (first | exact tight_mem0 _ | exact hT.up | exact hT | (simp only [q_6, q_7, q_8, q_9, q_10]; done) | refine Tight.upd ?_ (by simp) (by simp))) ⟨_, _, hm_0, rfl, rfl⟩ h_18) ?_
      try simp [gP, gt, gr, gg, hm_0.copy, hm_0.elem, q_6, q_7, q_8, q_9, q_10, h_11]
      rcases cond_cases hp with ⟨h_19, hp⟩ | ⟨h_19, hp⟩
      · try simp at h_19
        cases hp
        try simp [gP, gt, gr, gg, hm_0.copy, hm_0.elem, q_6, q_7, q_8, q_9, q_10, h_11, h_19]
        refine goal_outR ?_
        rw [X_4_]
        refine ⟨_, rfl, ?_, ?_⟩ <;> simp [restrict_env, restrict_mem, gP, gt, gr, gg, hm_0.copy, hm_0.elem, q_6, q_7, q_8, q_9, q_10, h_11, h_19]
      · try simp at h_19
        cases hp
        try simp [gP, gt, gr, gg, hm_0.copy, hm_0.elem, q_6, q_7, q_8, q_9, q_10, h_11, h_19]
        refine goal_next ?_
        rw [I_3_]
        refine ⟨?_, by simp [restrict_env, gP, gt, gr, gg, hm_0.copy, hm_0.elem, q_6, q_7, q_8, q_9, q_10, h_11, h_19] <;> first | (intro x x1 x2 hx; have h0 := hl_f_ _ hx; simp at h0; omega) | (intro x hx; have h0 := hl_f_ _ hx; simp at h0; omega), ?_, ?_, ?_⟩ <;> simp [restrict_env, restrict_mem, gP, gt, gr, gg, hm_0.copy, hm_0.elem, q_6, q_7, q_8, q_9, q_10, h_11, h_19]
    · try simp at h_11
      cases hp
      try simp [gP, gt, gr, gg, hm_0.copy, hm_0.elem, q_6, q_7, q_8, q_9, q_10, h_11]
      refine goal_outX ?_
      rw [X_4_]
      exact ⟨_, rfl, by simp [restrict_mem, gP, gt, gr, gg, hm_0.copy, hm_0.elem, q_6, q_7, q_8, q_9, q_10, h_11]⟩
  · intro out hX
    rw [X_4_] at hX
    rcases r_20 with r_20 | r_20
    · simp only [Sum.elim_inl, Sum.elim_inr] at hX hp
      obtain ⟨σ_22, rfl, q_23, q_24⟩ := hX
      cases hp
      simp [Goal, FnEndI, memKill_hi, gP, gt, gr, gg, hm_0.copy, hm_0.elem, q_23, q_24, hT2]
    · simp only [Sum.elim_inl, Sum.elim_inr] at hX hp
      obtain ⟨σ_25, rfl, q_26⟩ := hX
      cases hp
      simp [Goal, FnEndI, memKill_hi, gP, gt, gr, gg, hm_0.copy, hm_0.elem, q_26, hT2]

abbrev G184 (g : Cfg) : Prop := Has Try.prog g 184 Try.f184 [] [] [] []
set_option maxHeartbeats 4000000 in
set_option maxRecDepth 100000 in
theorem wI184 {g : Cfg} (G : G184 g) (G_235 : G235 g) {d : Nat} {mem : Mem} (hT : Tight d mem)  {s : (List TStructure)} {f_ : (TStructure → Option (Bool))} {m_0 : Md} (hm_0 : LentM m_0) {fk_f_ : Nat} {caps_f_ : List (Key × Nat)} (hl_f_ : ∀ c ∈ caps_f_, c.1.1 ≤ d) (hc_f_ : Clo g d mem fk_f_ caps_f_ fun x : TStructure × Unit => f_ x.1) {y} (hp : slices_ContainsFunc_Structure s f_ = some y) : callo g d 184 [av m_0 s, .one (.fn fk_f_ caps_f_)] mem = some (Res.res y, mem) := by
  have gP := G.P; have gt := G.tk; have gr := G.ro; have gg := G.gh
  have i_235 := G_235.no
  have hT2 : memKill (fun k => decide (d < k.1)) mem = mem := hT
  refine start_in (Try.f184.body.getD .skip) [.tmp 4] G Try.func184 (by kernel_rfl) (by simp [Try.ntmps184]) rfl ?_
  unfold slices_ContainsFunc_Structure at hp
  obtain ⟨y_1, h_2, hp⟩ := bind_some hp
  simp [Try.f184, gP, gt, gr, gg, i_235, hm_0.copy, hm_0.elem]
  refine goal_call [av m_0 s, .one (.fn fk_f_ caps_f_)] (Res.res y_1) (by simp [gP, gt, gr, gg, i_235, hm_0.copy, hm_0.elem]) (wI235 G_235 (by repeat (first | exact tight_mem0 _ | exact hT.up | exact hT | (simp only [true_and]; done) | refine Tight.upd ?_ (by simp) (by simp))) hm_0 (fun c hc => Nat.le_succ_of_le (hl_f_ c hc)) (hc_f_.mono (Nat.le_succ d) (fun k hk => rfl)) h_2) ?_
  cases hp
  simp [Goal, FnEndI, memKill_hi, gP, gt, gr, gg, i_235, hm_0.copy, hm_0.elem, hT2]

abbrev G185 (g : Cfg) : Prop := Has Try.prog g 185 Try.f185 [] [] [(186, C186)] []
set_option maxHeartbeats 4000000 in
set_option maxRecDepth 100000 in
theorem wI185 {g : Cfg} (G : G185 g) {d : Nat} {mem : Mem} (hT : Tight d mem) {K_1 : Key} {t : TStructure} {c0 : TStructure} {m_0 : Md} (hm_0 : LentM m_0) {mk_1 : Md} (hk_1 : K_1.1 ≤ d) (hb_1 : mem K_1 = some [(.l mk_1 c0.nodes.length (encL c0.nodes)), (.l mk_1 c0.next.length (encL c0.next))]) {y} (hp : impl_Covers_1 t c0 = some y) : callo g d 185 [av m_0 t, .one (.ptr K_1 0)] mem = some (Res.res y, mem) := by
  have gP := G.P; have gt := G.tk; have gr := G.ro; have gg := G.gh
  have c_186 := G.cs (186, C186) (by simp)
  have hT2 : memKill (fun k => decide (d < k.1)) mem = mem := hT
  have hm0 : ∀ t, mem (d + 1, t) = none := fun t => hT.none (by simp)
  have nk_1 : ∀ t, (K_1 = (d + 1, t)) = False := fun t => by simp; intro h; rw [h] at hk_1; simp at hk_1; omega
  refine start_in (Try.f185.body.getD .skip) [.tmp 3] G Try.func185 (by kernel_rfl) (by simp [Try.ntmps185]) rfl ?_
  unfold impl_Covers_1 at hp
  obtain ⟨y_1, h_2, hp⟩ := bind_some hp
  have c_3 := C186_eq h_2
  simp at c_3
  cases hp
  simp [Try.f185, Goal, FnEndI, memKill_hi, gP, gt, gr, gg, hm0, c_186, hm_0.copy, hm_0.elem, hb_1, nk_1, c_3, hT2]

noncomputable def C141 : List AV → Option AV := specP (X := (List TStructure) × TStructure × Unit) fun x => impl_Covers x.1 x.2.1
theorem C141_eq {set s} {y} (h : impl_Covers set s = some y) : C141 [av .shr set, av .shr s] = some (Res.res y) := specP_eq (X := (List TStructure) × TStructure × Unit) (F := fun x => impl_Covers x.1 x.2.1) (x := (set, s, ())) h
noncomputable def g141 : Cfg := { P := Try.prog, take := [], keep := [((235, 2), { hd := [0, 1, 7, 8], bx := [], ex := [], rt := [4] })], gho := [], ctx := [(186, C186)] }
@[simp] theorem g141_P : g141.P = Try.prog := rfl
@[simp] theorem g141_t : g141.take = [] := rfl
@[simp] theorem g141_g : g141.gho = [] := rfl
@[simp] theorem g141_r : g141.ro = [] := rfl
@[simp] theorem g141_w : g141.away = [] := by rw [g141]
@[simp] theorem g141_186 : lookN 186 g141.ctx = some C186 := rfl
@[simp] theorem g141_184 : lookN 184 g141.ctx = none := rfl
@[simp] theorem g141_235 : lookN 235 g141.ctx = none := rfl
@[simp] theorem g141_185 : lookN 185 g141.ctx = none := rfl
set_option maxHeartbeats 4000000 in
set_option maxRecDepth 100000 in
theorem w141 {set s} {y} (hp : impl_Covers set s = some y) : ∃ m, callo g141 0 141 [av .shr set, av .shr s] mem0 = some (Res.res y, m) := by
  have G_184 : G184 g141 := ⟨rfl, by kernel_rfl, rfl, fun t => by simp, noAway (fun t => by simp) (by simp), fun i => by simp [lookK], by simp [g141, lookK], by simp⟩
  have G_235 : G235 g141 := ⟨rfl, by kernel_rfl, rfl, fun t => by simp, noAway (fun t => by simp) (by simp), fun i => by simp [lookK], by simp [g141, lookK], by simp⟩
  have G_185 : G185 g141 := ⟨rfl, by kernel_rfl, rfl, fun t => by simp, noAway (fun t => by simp) (by simp), fun i => by simp [lookK], by simp [g141, lookK], by simp⟩
  refine start_fn (Try.f141.body.getD .skip) [.tmp 4] rfl rfl Try.func141 (by kernel_rfl) (by kernel_rfl) (by simp [Try.ntmps141]) rfl ?_
  unfold impl_Covers at hp
  obtain ⟨y_1, h_2, hp⟩ := bind_some hp
  simp [Try.f141]
  refine goal_call [av .shr set, .one (.fn 185 [((1, 3), 0)])] (Res.res y_1) (by simp) (wI184 G_184 G_235 (by repeat (first | exact tight_mem0 _ | exact hT.up | exact hT | (simp only [true_and]; done) | refine Tight.upd ?_ (by simp) (by simp))) (.inl rfl) (by simp) (clo1 (p := fun x0 => impl_Covers_1 x0 s) fun d2 mem2 m0 x0 r2 hd2 ha2 hT2 hm0 hr2 => wI185 (mk_1 := .shr) G_185 hT2 hm0 (show 1 ≤ d2 from hd2) ((ha2 _ (Nat.le_refl _)).trans (by simp)) hr2) h_2) ?_
  cases hp
  simp [Goal, FnEnd]
theorem pc141 : PC Try.prog 141 C141 := pc_of (g := g141) (ctxOK_of [(186, C186)] rfl ⟨pc186, trivial⟩) ⟨Try.f141, Try.func141, by kernel_rfl, by kernel_rfl⟩ fun x y h => w141 h

noncomputable def C78 : List AV → Option AV := specP (X := (List TStructure) × THeap × Unit) fun x => impl_SetDescribes x.1 x.2.1
theorem C78_eq {set h_} {y} (h : impl_SetDescribes set h_ = some y) : C78 [av .shr set, av .shr h_] = some (Res.res y) := specP_eq (X := (List TStructure) × THeap × Unit) (F := fun x => impl_SetDescribes x.1 x.2.1) (x := (set, h_, ())) h
noncomputable def g78 : Cfg := { P := Try.prog, take := [], keep := [], gho := [], ctx := [(100, C100), (141, C141)] }
@[simp] theorem g78_P : g78.P = Try.prog := rfl
@[simp] theorem g78_t : g78.take = [] := rfl
@[simp] theorem g78_g : g78.gho = [] := rfl
@[simp] theorem g78_r : g78.ro = [] := rfl
@[simp] theorem g78_w : g78.away = [] := by rw [g78]
@[simp] theorem g78_100 : lookN 100 g78.ctx = some C100 := rfl
@[simp] theorem g78_141 : lookN 141 g78.ctx = some C141 := rfl
set_option maxHeartbeats 4000000 in
set_option maxRecDepth 100000 in
theorem w78 {set h_} {y} (hp : impl_SetDescribes set h_ = some y) : ∃ m, callo g78 0 78 [av .shr set, av .shr h_] mem0 = some (Res.res y, m) := by
  refine start_fn (Try.f78.body.getD .skip) [.tmp 4] rfl rfl Try.func78 (by kernel_rfl) (by kernel_rfl) (by simp [Try.ntmps78]) rfl ?_
  unfold impl_SetDescribes at hp
  obtain ⟨y_1, h_2, hp⟩ := bind_some hp
  have c_3 := C100_eq h_2
  simp at c_3
  obtain ⟨y_4, h_5, hp⟩ := bind_some hp
  have c_6 := C141_eq h_5
  simp at c_6
  cases hp
  simp [Try.f78, Goal, FnEnd, c_3, c_6]
theorem pc78 : PC Try.prog 78 C78 := pc_of (g := g78) (ctxOK_of [(100, C100), (141, C141)] rfl ⟨pc100, pc141, trivial⟩) ⟨Try.f78, Try.func78, by kernel_rfl, by kernel_rfl⟩ fun x y h => w78 h

noncomputable def C183 : List AV → Option AV := specP (X := Int × Int × Unit) fun x => impl_lists x.1 x.2.1
theorem C183_eq {many bound} {y} (h : impl_lists many bound = some y) : C183 [av .shr many, av .shr bound] = some (Res.res y) := specP_eq (X := Int × Int × Unit) (F := fun x => impl_lists x.1 x.2.1) (x := (many, bound, ())) h
noncomputable def g183 : Cfg := { P := Try.prog, take := [(183, 27), (183, 36), (183, 38)], keep := [((183, 3), { hd := [1, 5, 12, 13], bx := [], ex := [5], rt := [4] }), ((183, 6), { hd := [1, 6, 12, 13, 16, 17, 18], bx := [], ex := [1, 6, 12, 13], rt := [4] }), ((183, 9), { hd := [1, 6, 8, 9, 12, 13, 16, 17, 18], bx := [], ex := [1, 6, 12, 13, 16, 17, 18], rt := [4] })], gho := [], ctx := [(127, C127)] }
@[simp] theorem g183_P : g183.P = Try.prog := rfl
@[simp] theorem g183_t : g183.take = [(183, 27), (183, 36), (183, 38)] := rfl
@[simp] theorem g183_g : g183.gho = [] := rfl
@[simp] theorem g183_r : g183.ro = [] := rfl
@[simp] theorem g183_w : g183.away = [] := by rw [g183]
@[simp] theorem g183_127 : lookN 127 g183.ctx = some C127 := rfl
set_option maxHeartbeats 4000000 in
set_option maxRecDepth 100000 in
theorem w183 {many bound} {y} (hp : impl_lists many bound = some y) : ∃ m, callo g183 0 183 [av .shr many, av .shr bound] mem0 = some (Res.res y, m) := by
  refine start_fn (Try.f183.body.getD .skip) [.tmp 4] rfl rfl Try.func183 (by kernel_rfl) (by kernel_rfl) (by simp [Try.ntmps183]) rfl ?_
  unfold impl_lists at hp
  simp [Try.f183]
  obtain ⟨r_73, h_74, hp⟩ := bind_some hp
  obtain ⟨I_3, I_3_⟩ : ∃ I : (List (List Int)) × Int → St → Prop, I = (fun (s_1 : (List (List Int)) × Int) (σ : St) => σ.env 1 = .one (.s (.int .i64 bound)) ∧ σ.env 5 = .one (.l .own s_1.1.length (encL s_1.1)) ∧ σ.env 12 = .one (.s (.int .i64 many)) ∧ σ.env 13 = .one (.s (.int .i64 s_1.2)) ∧ σ.mem = mem0) := ⟨_, rfl⟩
  obtain ⟨X_4, X_4_⟩ : ∃ X : (List (List Int)) → Out → Prop, X = (fun (r_73 : (List (List Int))) (out : Out) => ∃ σ : St, out = .exit 0 σ ∧ σ.env 5 = .one (.l .own r_73.length (encL r_73)) ∧ σ.mem = mem0) := ⟨_, rfl⟩
  refine loopP ({ hd := [1, 5, 12, 13], bx := [], ex := [5], rt := [4] }) I_3 X_4 h_74 (by exact rfl) ?_ ?_ ?_
  · rw [I_3_]
    refine ⟨?_, ?_, ?_, ?_, ?_⟩ <;> simp [restrict_env, restrict_mem]
  · intro s_1 σ_5 a_2 hI hp
    rw [I_3_] at hI
    obtain ⟨q_6, q_7, q_8, q_9, q_10⟩ := hI
    try simp [q_6, q_7, q_8, q_9, q_10]
    rcases cond_cases hp with ⟨h_11, hp⟩ | ⟨h_11, hp⟩
    · try simp at h_11
      try simp [q_6, q_7, q_8, q_9, q_10, h_11]
      obtain ⟨r_65, h_66, hp⟩ := bind_some hp
      obtain ⟨I_14, I_14_⟩ : ∃ I : (List (List Int)) × Int → St → Prop, I = (fun (s_12 : (List (List Int)) × Int) (σ : St) => σ.env 1 = .one (.s (.int .i64 bound)) ∧ σ.env 6 = .one (.l .own s_12.1.length (encL s_12.1)) ∧ σ.env 12 = .one (.s (.int .i64 many)) ∧ σ.env 13 = .one (.s (.int .i64 s_1.2)) ∧ σ.env 16 = .one (.l .bor s_1.1.length (encL s_1.1)) ∧ σ.env 17 = .one (.s (.int .i64 (s_1.1.length : Int))) ∧ σ.env 18 = .one (.s (.int .i64 s_12.2)) ∧ σ.mem = mem0) := ⟨_, rfl⟩
      obtain ⟨X_15, X_15_⟩ : ∃ X : (List (List Int)) → Out → Prop, X = (fun (r_65 : (List (List Int))) (out : Out) => ∃ σ : St, out = .exit 2 σ ∧ σ.env 1 = .one (.s (.int .i64 bound)) ∧ σ.env 6 = .one (.l .own r_65.length (encL r_65)) ∧ σ.env 12 = .one (.s (.int .i64 many)) ∧ σ.env 13 = .one (.s (.int .i64 s_1.2)) ∧ σ.mem = mem0) := ⟨_, rfl⟩
      refine loopP ({ hd := [1, 6, 12, 13, 16, 17, 18], bx := [], ex := [1, 6, 12, 13], rt := [4] }) I_14 X_15 h_66 (by exact rfl) ?_ ?_ ?_
      · rw [I_14_]
        refine ⟨?_, ?_, ?_, ?_, ?_, ?_, ?_, ?_⟩ <;> simp [restrict_env, restrict_mem, q_6, q_7, q_8, q_9, q_10, h_11]
      · intro s_12 σ_16 a_13 hI hp
        rw [I_14_] at hI
        obtain ⟨q_17, q_18, q_19, q_20, q_21, q_22, q_23, q_24⟩ := hI
        try simp [h_11, q_17, q_18, q_19, q_20, q_21, q_22, q_23, q_24]
        rcases cond_cases hp with ⟨h_25, hp⟩ | ⟨h_25, hp⟩
        · try simp at h_25
          obtain ⟨e_26, h_27, hp⟩ := bind_some hp
          have b_28 := at_lo h_27
          have b_29 := at_hi h_27
          try simp at b_28
          try simp at b_29
          have c_30 := seg_at' h_27 0 1 (by decide) (ds := [.sl e_26.length (encL e_26)]) rfl
          try simp at c_30
          try simp [h_11, q_17, q_18, q_19, q_20, q_21, q_22, q_23, q_24, h_25, b_28, b_29, c_30]
          obtain ⟨r_54, h_55, hp⟩ := bind_some hp
          obtain ⟨I_33, I_33_⟩ : ∃ I : (List (List Int)) × Int → St → Prop, I = (fun (s_31 : (List (List Int)) × Int) (σ : St) => σ.env 1 = .one (.s (.int .i64 bound)) ∧ σ.env 6 = .one (.l .own s_31.1.length (encL s_31.1)) ∧ σ.env 8 = .one (.l .bor e_26.length (encL e_26)) ∧ σ.env 9 = .one (.s (.int .i64 s_31.2)) ∧ σ.env 12 = .one (.s (.int .i64 many)) ∧ σ.env 13 = .one (.s (.int .i64 s_1.2)) ∧ σ.env 16 = .one (.l .bor s_1.1.length (encL s_1.1)) ∧ σ.env 17 = .one (.s (.int .i64 (s_1.1.length : Int))) ∧ σ.env 18 = .one (.s (.int .i64 s_12.2)) ∧ σ.mem = mem0) := ⟨_, rfl⟩
          obtain ⟨X_34, X_34_⟩ : ∃ X : (List (List Int)) → Out → Prop, X = (fun (r_54 : (List (List Int))) (out : Out) => ∃ σ : St, out = .exit 4 σ ∧ σ.env 1 = .one (.s (.int .i64 bound)) ∧ σ.env 6 = .one (.l .own r_54.length (encL r_54)) ∧ σ.env 12 = .one (.s (.int .i64 many)) ∧ σ.env 13 = .one (.s (.int .i64 s_1.2)) ∧ σ.env 16 = .one (.l .bor s_1.1.length (encL s_1.1)) ∧ σ.env 17 = .one (.s (.int .i64 (s_1.1.length : Int))) ∧ σ.env 18 = .one (.s (.int .i64 s_12.2)) ∧ σ.mem = mem0) := ⟨_, rfl⟩
          refine loopP ({ hd := [1, 6, 8, 9, 12, 13, 16, 17, 18], bx := [], ex := [1, 6, 12, 13, 16, 17, 18], rt := [4] }) I_33 X_34 h_55 (by exact rfl) ?_ ?_ ?_
          · rw [I_33_]
            refine ⟨?_, ?_, ?_, ?_, ?_, ?_, ?_, ?_, ?_, ?_⟩ <;> simp [restrict_env, restrict_mem, h_11, q_17, q_18, q_19, q_20, q_21, q_22, q_23, q_24, h_25]
          · intro s_31 σ_35 a_32 hI hp
            rw [I_33_] at hI
            obtain ⟨q_36, q_37, q_38, q_39, q_40, q_41, q_42, q_43, q_44, q_45⟩ := hI
            try simp [h_11, h_25, q_36, q_37, q_38, q_39, q_40, q_41, q_42, q_43, q_44, q_45]
            rcases cond_cases hp with ⟨h_46, hp⟩ | ⟨h_46, hp⟩
            · try simp at h_46
              obtain ⟨y_47, h_48, hp⟩ := bind_some hp
              have c_49 := C127_eq h_48
              simp at c_49
              obtain ⟨_, h_50, hp⟩ := bind_some hp
              have b_51 := room_ok h_50
              try simp at b_51
              obtain ⟨_, h_52, hp⟩ := bind_some hp
              have b_53 := room_ok h_52
              try simp at b_53
              cases hp
              try simp [h_11, h_25, q_36, q_37, q_38, q_39, q_40, q_41, q_42, q_43, q_44, q_45, h_46, c_49, b_51, b_53]
              refine goal_next ?_
              rw [I_33_]
              refine ⟨?_, ?_, ?_, ?_, ?_, ?_, ?_, ?_, ?_, ?_⟩ <;> simp [restrict_env, restrict_mem, h_11, h_25, q_36, q_37, q_38, q_39, q_40, q_41, q_42, q_43, q_44, q_45, h_46, c_49, b_51, b_53]
            · try simp at h_46
              cases hp
              try simp [h_11, h_25, q_36, q_37, q_38, q_39, q_40, q_41, q_42, q_43, q_44, q_45, h_46]
              refine goal_outX ?_
              rw [X_34_]
              refine ⟨_, rfl, ?_, ?_, ?_, ?_, ?_, ?_, ?_, ?_⟩ <;> simp [restrict_env, restrict_mem, h_11, h_25, q_36, q_37, q_38, q_39, q_40, q_41, q_42, q_43, q_44, q_45, h_46]
          · intro out hX
            rw [X_34_] at hX
            obtain ⟨σ_56, rfl, q_57, q_58, q_59, q_60, q_61, q_62, q_63, q_64⟩ := hX
            cases hp
            try simp [h_11, h_25, q_57, q_58, q_59, q_60, q_61, q_62, q_63, q_64]
            refine goal_next ?_
            rw [I_14_]
            refine ⟨?_, ?_, ?_, ?_, ?_, ?_, ?_, ?_⟩ <;> simp [restrict_env, restrict_mem, h_11, h_25, q_57, q_58, q_59, q_60, q_61, q_62, q_63, q_64]
        · try simp at h_25
          cases hp
          try simp [h_11, q_17, q_18, q_19, q_20, q_21, q_22, q_23, q_24, h_25]
          refine goal_outX ?_
          rw [X_15_]
          refine ⟨_, rfl, ?_, ?_, ?_, ?_, ?_⟩ <;> simp [restrict_env, restrict_mem, h_11, q_17, q_18, q_19, q_20, q_21, q_22, q_23, q_24, h_25]
      · intro out hX
        rw [X_15_] at hX
        obtain ⟨σ_67, rfl, q_68, q_69, q_70, q_71, q_72⟩ := hX
        cases hp
        try simp [h_11, q_68, q_69, q_70, q_71, q_72]
        refine goal_next ?_
        rw [I_3_]
        refine ⟨?_, ?_, ?_, ?_, ?_⟩ <;> simp [restrict_env, restrict_mem, h_11, q_68, q_69, q_70, q_71, q_72]
    · try simp at h_11
      cases hp
      try simp [q_6, q_7, q_8, q_9, q_10, h_11]
      refine goal_outX ?_
      rw [X_4_]
      refine ⟨_, rfl, ?_, ?_⟩ <;> simp [restrict_env, restrict_mem, q_6, q_7, q_8, q_9, q_10, h_11]
  · intro out hX
    rw [X_4_] at hX
    obtain ⟨σ_75, rfl, q_76, q_77⟩ := hX
    cases hp
    simp [Goal, FnEnd, q_76, q_77]
theorem pc183 : PC Try.prog 183 C183 := pc_of (g := g183) (ctxOK_of [(127, C127)] rfl ⟨pc127, trivial⟩) ⟨Try.f183, Try.func183, by kernel_rfl, by kernel_rfl⟩ fun x y h => w183 h

noncomputable def C202 : List AV → Option AV := specP (X := THeap × Unit) fun x => impl_Heap_isCyclic x.1
theorem C202_eq {h_} {y} (h : impl_Heap_isCyclic h_ = some y) : C202 [av .shr h_] = some (Res.res y) := specP_eq (X := THeap × Unit) (F := fun x => impl_Heap_isCyclic x.1) (x := (h_, ())) h
noncomputable def g202 : Cfg := { P := Try.prog, take := [], keep := [((202, 2), { hd := [1, 6, 7], bx := [], ex := [], rt := [2] })], gho := [], ctx := [(169, C169), (170, C170)] }
@[simp] theorem g202_P : g202.P = Try.prog := rfl
@[simp] theorem g202_t : g202.take = [] := rfl
@[simp] theorem g202_g : g202.gho = [] := rfl
@[simp] theorem g202_r : g202.ro = [] := rfl
@[simp] theorem g202_w : g202.away = [] := by rw [g202]
@[simp] theorem g202_169 : lookN 169 g202.ctx = some C169 := rfl
@[simp] theorem g202_170 : lookN 170 g202.ctx = some C170 := rfl
set_option maxHeartbeats 4000000 in
set_option maxRecDepth 100000 in
theorem w202 {h_} {y} (hp : impl_Heap_isCyclic h_ = some y) : ∃ m, callo g202 0 202 [av .shr h_] mem0 = some (Res.res y, m) := by
  refine start_fn (Try.f202.body.getD .skip) [.tmp 2] rfl rfl Try.func202 (by kernel_rfl) (by kernel_rfl) (by simp [Try.ntmps202]) rfl ?_
  unfold impl_Heap_isCyclic at hp
  simp [Try.f202]
  obtain ⟨r_24, h_25, hp⟩ := bind_some hp
  obtain ⟨I_3, I_3_⟩ : ∃ I : Int → St → Prop, I = (fun (s_1 : Int) (σ : St) => σ.env 1 = .one (.ptr (1, 1) 0) ∧ σ.env 6 = .one (.s (.int .i64 (h_.next.length : Int))) ∧ σ.env 7 = .one (.s (.int .i64 s_1)) ∧ σ.mem (1, 1) = some [(.l .shr h_.vars.length (encL h_.vars)), (.l .shr h_.next.length (encL h_.next))] ∧ NoBox [(1, 1)] σ.mem) := ⟨_, rfl⟩
  obtain ⟨X_4, X_4_⟩ : ∃ X : ((Bool) ⊕ (Unit)) → Out → Prop, X = (fun (r_24 : (Bool) ⊕ (Unit)) (out : Out) => Sum.elim (fun r_24 => ∃ σ : St, out = .ret σ ∧ σ.env 2 = .one (.s (.bool r_24)) ∧ σ.mem (1, 1) = some [(.l .shr h_.vars.length (encL h_.vars)), (.l .shr h_.next.length (encL h_.next))] ∧ NoBox [(1, 1)] σ.mem) (fun r_24 => ∃ σ : St, out = .exit 0 σ ∧ σ.mem (1, 1) = some [(.l .shr h_.vars.length (encL h_.vars)), (.l .shr h_.next.length (encL h_.next))] ∧ NoBox [(1, 1)] σ.mem) r_24) := ⟨_, rfl⟩
  refine loopP ({ hd := [1, 6, 7], bx := [], ex := [], rt := [2] }) I_3 X_4 h_25 (by exact rfl) ?_ ?_ ?_
  · rw [I_3_]
    refine ⟨?_, ?_, ?_, ?_, NoBox.restrict (by intro k hk hb; simp at hk hb; simp [hk, hb])⟩ <;> simp [restrict_env, restrict_mem]
  · intro s_1 σ_5 a_2 hI hp
    rw [I_3_] at hI
    obtain ⟨q_6, q_7, q_8, q_9, hn_10⟩ := hI
    try simp [q_6, q_7, q_8, q_9]
    rcases cond_cases hp with ⟨h_11, hp⟩ | ⟨h_11, hp⟩
    · try simp at h_11
      obtain ⟨e_12, h_13, hp⟩ := bind_some hp
      have b_14 := at_lo h_13
      have b_15 := at_hi h_13
      try simp at b_14
      try simp at b_15
      have c_16 := seg_at' h_13 0 1 (by decide) (ds := [.sc (.int .i64 e_12)]) rfl
      try simp at c_16
      obtain ⟨y_17, h_18, hp⟩ := bind_some hp
      have c_19 := C170_eq h_18
      simp at c_19
      obtain ⟨y_20, h_21, hp⟩ := bind_some hp
      have c_22 := C169_eq h_21
      simp at c_22
      try simp [q_6, q_7, q_8, q_9, h_11, b_14, b_15, c_16, c_19, c_22]
      rcases cond_cases hp with ⟨h_23, hp⟩ | ⟨h_23, hp⟩
      · try simp at h_23
        cases hp
        try simp [q_6, q_7, q_8, q_9, h_11, h_23]
        refine goal_outR ?_
        rw [X_4_]
        refine ⟨_, rfl, ?_, ?_, NoBox.restrict (by intro k hk hb; simp at hk hb; simp [hk, hb, q_6, q_7, q_8, q_9, h_11, h_23, hn_10 k (by simp [hk, hb])])⟩ <;> simp [restrict_env, restrict_mem, q_6, q_7, q_8, q_9, h_11, h_23]
      · try simp at h_23
        cases hp
        try simp [q_6, q_7, q_8, q_9, h_11, h_23]
        refine goal_next ?_
        rw [I_3_]
        refine ⟨?_, ?_, ?_, ?_, NoBox.restrict (by intro k hk hb; simp at hk hb; simp [hk, hb, q_6, q_7, q_8, q_9, h_11, h_23, hn_10 k (by simp [hk, hb])])⟩ <;> simp [restrict_env, restrict_mem, q_6, q_7, q_8, q_9, h_11, h_23]
    · try simp at h_11
      cases hp
      try simp [q_6, q_7, q_8, q_9, h_11]
      refine goal_outX ?_
      rw [X_4_]
      exact ⟨_, rfl, by simp [restrict_mem, q_6, q_7, q_8, q_9, h_11], NoBox.restrict (by intro k hk hb; simp at hk hb; simp [hk, hb, q_6, q_7, q_8, q_9, h_11, hn_10 k (by simp [hk, hb])])⟩
  · intro out hX
    rw [X_4_] at hX
    rcases r_24 with r_24 | r_24
    · simp only [Sum.elim_inl, Sum.elim_inr] at hX hp
      obtain ⟨σ_26, rfl, q_27, q_28, hn_29⟩ := hX
      cases hp
      simp [Goal, FnEnd, q_27, q_28]
    · simp only [Sum.elim_inl, Sum.elim_inr] at hX hp
      obtain ⟨σ_30, rfl, q_31, hn_32⟩ := hX
      cases hp
      simp [Goal, FnEnd, q_31]
theorem pc202 : PC Try.prog 202 C202 := pc_of (g := g202) (ctxOK_of [(169, C169), (170, C170)] rfl ⟨pc169, pc170, trivial⟩) ⟨Try.f202, Try.func202, by kernel_rfl, by kernel_rfl⟩ fun x y h => w202 h

noncomputable def C203 : List AV → Option AV := specP (X := THeap × Unit) fun x => impl_Heap_met x.1
theorem C203_eq {h_} {y} (h : impl_Heap_met h_ = some y) : C203 [av .shr h_] = some (Res.res y) := specP_eq (X := THeap × Unit) (F := fun x => impl_Heap_met x.1) (x := (h_, ())) h
noncomputable def g203 : Cfg := { P := Try.prog, take := [(203, 28), (203, 34)], keep := [((203, 3), { hd := [1, 3, 10, 11, 12], bx := [], ex := [3], rt := [2] }), ((203, 6), { hd := [1, 3, 10, 11, 12, 18, 19, 20], bx := [], ex := [1, 3, 10, 11, 12], rt := [2] })], gho := [], ctx := [(169, C169), (170, C170)] }
@[simp] theorem g203_P : g203.P = Try.prog := rfl
@[simp] theorem g203_t : g203.take = [(203, 28), (203, 34)] := rfl
@[simp] theorem g203_g : g203.gho = [] := rfl
@[simp] theorem g203_r : g203.ro = [] := rfl
@[simp] theorem g203_w : g203.away = [] := by rw [g203]
@[simp] theorem g203_169 : lookN 169 g203.ctx = some C169 := rfl
@[simp] theorem g203_170 : lookN 170 g203.ctx = some C170 := rfl
set_option maxHeartbeats 4000000 in
set_option maxRecDepth 100000 in
theorem w203 {h_} {y} (hp : impl_Heap_met h_ = some y) : ∃ m, callo g203 0 203 [av .shr h_] mem0 = some (Res.res y, m) := by
  refine start_fn (Try.f203.body.getD .skip) [.tmp 2] rfl rfl Try.func203 (by kernel_rfl) (by kernel_rfl) (by simp [Try.ntmps203]) rfl ?_
  unfold impl_Heap_met at hp
  simp [Try.f203]
  obtain ⟨r_59, h_60, hp⟩ := bind_some hp
  obtain ⟨I_3, I_3_⟩ : ∃ I : (List Int) × Int → St → Prop, I = (fun (s_1 : (List Int) × Int) (σ : St) => σ.env 1 = .one (.ptr (1, 1) 0) ∧ σ.env 3 = .one (.l .own s_1.1.length (encL s_1.1)) ∧ σ.env 10 = .one (.l .shr h_.vars.length (encL h_.vars)) ∧ σ.env 11 = .one (.s (.int .i64 (h_.vars.length : Int))) ∧ σ.env 12 = .one (.s (.int .i64 s_1.2)) ∧ σ.mem (1, 1) = some [(.l .shr h_.vars.length (encL h_.vars)), (.l .shr h_.next.length (encL h_.next))] ∧ NoBox [(1, 1)] σ.mem) := ⟨_, rfl⟩
  obtain ⟨X_4, X_4_⟩ : ∃ X : (List Int) → Out → Prop, X = (fun (r_59 : (List Int)) (out : Out) => ∃ σ : St, out = .exit 0 σ ∧ σ.env 3 = .one (.l .own r_59.length (encL r_59)) ∧ σ.mem (1, 1) = some [(.l .shr h_.vars.length (encL h_.vars)), (.l .shr h_.next.length (encL h_.next))] ∧ NoBox [(1, 1)] σ.mem) := ⟨_, rfl⟩
  refine loopP ({ hd := [1, 3, 10, 11, 12], bx := [], ex := [3], rt := [2] }) I_3 X_4 h_60 (by exact rfl) ?_ ?_ ?_
  · rw [I_3_]
    refine ⟨?_, ?_, ?_, ?_, ?_, ?_, NoBox.restrict (by intro k hk hb; simp at hk hb; simp [hk, hb])⟩ <;> simp [restrict_env, restrict_mem]
  · intro s_1 σ_5 a_2 hI hp
    rw [I_3_] at hI
    obtain ⟨q_6, q_7, q_8, q_9, q_10, q_11, hn_12⟩ := hI
    try simp [q_6, q_7, q_8, q_9, q_10, q_11]
    rcases cond_cases hp with ⟨h_13, hp⟩ | ⟨h_13, hp⟩
    · try simp at h_13
      obtain ⟨e_14, h_15, hp⟩ := bind_some hp
      have b_16 := at_lo h_15
      have b_17 := at_hi h_15
      try simp at b_16
      try simp at b_17
      have c_18 := seg_at' h_15 0 1 (by decide) (ds := [.sc (.int .i64 e_14)]) rfl
      try simp at c_18
      obtain ⟨y_19, h_20, hp⟩ := bind_some hp
      have c_21 := C170_eq h_20
      simp at c_21
      try simp [q_6, q_7, q_8, q_9, q_10, q_11, h_13, b_16, b_17, c_18, c_21]
      obtain ⟨r_49, h_50, hp⟩ := bind_some hp
      obtain ⟨I_24, I_24_⟩ : ∃ I : Int × (List Int) → St → Prop, I = (fun (s_22 : Int × (List Int)) (σ : St) => σ.env 1 = .one (.ptr (1, 1) 0) ∧ σ.env 3 = .one (.l .own s_22.2.length (encL s_22.2)) ∧ σ.env 10 = .one (.l .shr h_.vars.length (encL h_.vars)) ∧ σ.env 11 = .one (.s (.int .i64 (h_.vars.length : Int))) ∧ σ.env 12 = .one (.s (.int .i64 s_1.2)) ∧ σ.env 18 = .one (.l .own y_19.length (encL y_19)) ∧ σ.env 19 = .one (.s (.int .i64 (y_19.length : Int))) ∧ σ.env 20 = .one (.s (.int .i64 s_22.1)) ∧ σ.mem (1, 1) = some [(.l .shr h_.vars.length (encL h_.vars)), (.l .shr h_.next.length (encL h_.next))] ∧ NoBox [(1, 1)] σ.mem) := ⟨_, rfl⟩
      obtain ⟨X_25, X_25_⟩ : ∃ X : (List Int) → Out → Prop, X = (fun (r_49 : (List Int)) (out : Out) => ∃ σ : St, out = .exit 2 σ ∧ σ.env 1 = .one (.ptr (1, 1) 0) ∧ σ.env 3 = .one (.l .own r_49.length (encL r_49)) ∧ σ.env 10 = .one (.l .shr h_.vars.length (encL h_.vars)) ∧ σ.env 11 = .one (.s (.int .i64 (h_.vars.length : Int))) ∧ σ.env 12 = .one (.s (.int .i64 s_1.2)) ∧ σ.mem (1, 1) = some [(.l .shr h_.vars.length (encL h_.vars)), (.l .shr h_.next.length (encL h_.next))] ∧ NoBox [(1, 1)] σ.mem) := ⟨_, rfl⟩
      refine loopP ({ hd := [1, 3, 10, 11, 12, 18, 19, 20], bx := [], ex := [1, 3, 10, 11, 12], rt := [2] }) I_24 X_25 h_50 (by exact rfl) ?_ ?_ ?_
      · rw [I_24_]
        refine ⟨?_, ?_, ?_, ?_, ?_, ?_, ?_, ?_, ?_, NoBox.restrict (by intro k hk hb; simp at hk hb; simp [hk, hb, q_6, q_7, q_8, q_9, q_10, q_11, h_13, hn_12 k (by simp [hk, hb])])⟩ <;> simp [restrict_env, restrict_mem, q_6, q_7, q_8, q_9, q_10, q_11, h_13]
      · intro s_22 σ_26 a_23 hI hp
        rw [I_24_] at hI
        obtain ⟨q_27, q_28, q_29, q_30, q_31, q_32, q_33, q_34, q_35, hn_36⟩ := hI
        try simp [h_13, q_27, q_28, q_29, q_30, q_31, q_32, q_33, q_34, q_35]
        rcases cond_cases hp with ⟨h_37, hp⟩ | ⟨h_37, hp⟩
        · try simp at h_37
          obtain ⟨e_38, h_39, hp⟩ := bind_some hp
          have b_40 := at_lo h_39
          have b_41 := at_hi h_39
          try simp at b_40
          try simp at b_41
          have c_42 := seg_at' h_39 0 1 (by decide) (ds := [.sc (.int .i64 e_38)]) rfl
          try simp at c_42
          obtain ⟨y_43, h_44, hp⟩ := bind_some hp
          have c_45 := C169_eq h_44
          simp at c_45
          try simp [h_13, q_27, q_28, q_29, q_30, q_31, q_32, q_33, q_34, q_35, h_37, b_40, b_41, c_42, c_45]
          rcases cond_cases hp with ⟨h_46, hp⟩ | ⟨h_46, hp⟩
          · try simp at h_46
            cases hp
            try simp [h_13, q_27, q_28, q_29, q_30, q_31, q_32, q_33, q_34, q_35, h_37, h_46]
            refine goal_next ?_
            rw [I_24_]
            refine ⟨?_, ?_, ?_, ?_, ?_, ?_, ?_, ?_, ?_, NoBox.restrict (by intro k hk hb; simp at hk hb; simp [hk, hb, h_13, q_27, q_28, q_29, q_30, q_31, q_32, q_33, q_34, q_35, h_37, h_46, hn_36 k (by simp [hk, hb])])⟩ <;> simp [restrict_env, restrict_mem, h_13, q_27, q_28, q_29, q_30, q_31, q_32, q_33, q_34, q_35, h_37, h_46]
          · try simp at h_46
            obtain ⟨_, h_47, hp⟩ := bind_some hp
            have b_48 := room_ok h_47
            try simp at b_48
            cases hp
            try simp [h_13, q_27, q_28, q_29, q_30, q_31, q_32, q_33, q_34, q_35, h_37, h_46, b_48]
            refine goal_next ?_
            rw [I_24_]
            refine ⟨?_, ?_, ?_, ?_, ?_, ?_, ?_, ?_, ?_, NoBox.restrict (by intro k hk hb; simp at hk hb; simp [hk, hb, h_13, q_27, q_28, q_29, q_30, q_31, q_32, q_33, q_34, q_35, h_37, h_46, b_48, hn_36 k (by simp [hk, hb])])⟩ <;> simp [restrict_env, restrict_mem, h_13, q_27, q_28, q_29, q_30, q_31, q_32, q_33, q_34, q_35, h_37, h_46, b_48]
        · try simp at h_37
          cases hp
          try simp [h_13, q_27, q_28, q_29, q_30, q_31, q_32, q_33, q_34, q_35, h_37]
          refine goal_outX ?_
          rw [X_25_]
          refine ⟨_, rfl, ?_, ?_, ?_, ?_, ?_, ?_, NoBox.restrict (by intro k hk hb; simp at hk hb; simp [hk, hb, h_13, q_27, q_28, q_29, q_30, q_31, q_32, q_33, q_34, q_35, h_37, hn_36 k (by simp [hk, hb])])⟩ <;> simp [restrict_env, restrict_mem, h_13, q_27, q_28, q_29, q_30, q_31, q_32, q_33, q_34, q_35, h_37]
      · intro out hX
        rw [X_25_] at hX
        obtain ⟨σ_51, rfl, q_52, q_53, q_54, q_55, q_56, q_57, hn_58⟩ := hX
        cases hp
        try simp [h_13, q_52, q_53, q_54, q_55, q_56, q_57]
        refine goal_next ?_
        rw [I_3_]
        refine ⟨?_, ?_, ?_, ?_, ?_, ?_, NoBox.restrict (by intro k hk hb; simp at hk hb; simp [hk, hb, h_13, q_52, q_53, q_54, q_55, q_56, q_57, hn_58 k (by simp [hk, hb])])⟩ <;> simp [restrict_env, restrict_mem, h_13, q_52, q_53, q_54, q_55, q_56, q_57]
    · try simp at h_13
      cases hp
      try simp [q_6, q_7, q_8, q_9, q_10, q_11, h_13]
      refine goal_outX ?_
      rw [X_4_]
      refine ⟨_, rfl, ?_, ?_, NoBox.restrict (by intro k hk hb; simp at hk hb; simp [hk, hb, q_6, q_7, q_8, q_9, q_10, q_11, h_13, hn_12 k (by simp [hk, hb])])⟩ <;> simp [restrict_env, restrict_mem, q_6, q_7, q_8, q_9, q_10, q_11, h_13]
  · intro out hX
    rw [X_4_] at hX
    obtain ⟨σ_61, rfl, q_62, q_63, hn_64⟩ := hX
    cases hp
    simp [Goal, FnEnd, q_62, q_63]
theorem pc203 : PC Try.prog 203 C203 := pc_of (g := g203) (ctxOK_of [(169, C169), (170, C170)] rfl ⟨pc169, pc170, trivial⟩) ⟨Try.f203, Try.func203, by kernel_rfl, by kernel_rfl⟩ fun x y h => w203 h

noncomputable def C147 : List AV → Option AV := specP (X := Int × THeap × Unit) fun x => impl_IsHeap x.1 x.2.1
theorem C147_eq {vars h_} {y} (h : impl_IsHeap vars h_ = some y) : C147 [av .shr vars, av .shr h_] = some (Res.res y) := specP_eq (X := Int × THeap × Unit) (F := fun x => impl_IsHeap x.1 x.2.1) (x := (vars, h_, ())) h
noncomputable def g147 : Cfg := { P := Try.prog, take := [], keep := [((147, 5), { hd := [3, 5, 35, 36, 37], bx := [], ex := [3, 5], rt := [4] })], gho := [], ctx := [(122, C122), (166, C166), (202, C202), (203, C203)] }
@[simp] theorem g147_P : g147.P = Try.prog := rfl
@[simp] theorem g147_t : g147.take = [] := rfl
@[simp] theorem g147_g : g147.gho = [] := rfl
@[simp] theorem g147_r : g147.ro = [] := rfl
@[simp] theorem g147_w : g147.away = [] := by rw [g147]
@[simp] theorem g147_122 : lookN 122 g147.ctx = some C122 := rfl
@[simp] theorem g147_166 : lookN 166 g147.ctx = some C166 := rfl
@[simp] theorem g147_202 : lookN 202 g147.ctx = some C202 := rfl
@[simp] theorem g147_203 : lookN 203 g147.ctx = some C203 := rfl
set_option maxHeartbeats 4000000 in
set_option maxRecDepth 100000 in
theorem w147 {vars h_} {y} (hp : impl_IsHeap vars h_ = some y) : ∃ m, callo g147 0 147 [av .shr vars, av .shr h_] mem0 = some (Res.res y, m) := by
  refine start_fn (Try.f147.body.getD .skip) [.tmp 4] rfl rfl Try.func147 (by kernel_rfl) (by kernel_rfl) (by simp [Try.ntmps147]) rfl ?_
  unfold impl_IsHeap at hp
  obtain ⟨y_1, h_2, hp⟩ := bind_some hp
  have c_3 := C122_eq h_2
  simp at c_3
  simp [Try.f147, c_3]
  rcases cond_cases hp with ⟨h_4, hp⟩ | ⟨h_4, hp⟩
  · try simp at h_4
    try simp [h_4]
    rcases cond_cases hp with ⟨h_5, hp⟩ | ⟨h_5, hp⟩
    · try simp at h_5
      cases hp
      simp [Goal, FnEnd, h_4, h_5]
    · try simp at h_5
      try simp [h_4, h_5]
      rcases cond_cases hp with ⟨h_6, hp⟩ | ⟨h_6, hp⟩
      · try simp at h_6
        cases hp
        simp [Goal, FnEnd, h_4, h_5, h_6]
      · try simp at h_6
        obtain ⟨y_7, h_8, hp⟩ := bind_some hp
        have c_9 := C166_eq h_8
        simp at c_9
        try simp [h_4, h_5, h_6, c_9]
        rcases cond_cases hp with ⟨h_10, hp⟩ | ⟨h_10, hp⟩
        · try simp at h_10
          obtain ⟨y_11, h_12, hp⟩ := bind_some hp
          have c_13 := C202_eq h_12
          simp at c_13
          try simp [h_4, h_5, h_6, h_10, c_13]
          rcases cond_cases hp with ⟨h_14, hp⟩ | ⟨h_14, hp⟩
          · try simp at h_14
            cases hp
            simp [Goal, FnEnd, h_4, h_5, h_6, h_10, h_14]
          · try simp at h_14
            obtain ⟨y_15, h_16, hp⟩ := bind_some hp
            have c_17 := C203_eq h_16
            simp at c_17
            try simp [h_4, h_5, h_6, h_10, h_14, c_17]
            obtain ⟨r_37, h_38, hp⟩ := bind_some hp
            obtain ⟨I_20, I_20_⟩ : ∃ I : Int → St → Prop, I = (fun (s_18 : Int) (σ : St) => σ.env 3 = .one (.ptr (1, 3) 0) ∧ σ.env 5 = .one (.l .own y_15.length (encL y_15)) ∧ σ.env 35 = .one (.l .bor y_15.length (encL y_15)) ∧ σ.env 36 = .one (.s (.int .i64 (y_15.length : Int))) ∧ σ.env 37 = .one (.s (.int .i64 s_18)) ∧ σ.mem (1, 3) = some [(.l .shr h_.vars.length (encL h_.vars)), (.l .shr h_.next.length (encL h_.next))] ∧ NoBox [(1, 3)] σ.mem) := ⟨_, rfl⟩
            obtain ⟨X_21, X_21_⟩ : ∃ X : ((Unit) ⊕ (Unit)) → Out → Prop, X = (fun (r_37 : (Unit) ⊕ (Unit)) (out : Out) => Sum.elim (fun r_37 => ∃ σ : St, out = .ret σ ∧ σ.env 4 = .one (.s (.bool false)) ∧ σ.mem (1, 3) = some [(.l .shr h_.vars.length (encL h_.vars)), (.l .shr h_.next.length (encL h_.next))] ∧ NoBox [(1, 3)] σ.mem) (fun r_37 => ∃ σ : St, out = .exit 0 σ ∧ σ.env 3 = .one (.ptr (1, 3) 0) ∧ σ.env 5 = .one (.l .own y_15.length (encL y_15)) ∧ σ.mem (1, 3) = some [(.l .shr h_.vars.length (encL h_.vars)), (.l .shr h_.next.length (encL h_.next))] ∧ NoBox [(1, 3)] σ.mem) r_37) := ⟨_, rfl⟩
            refine loopP ({ hd := [3, 5, 35, 36, 37], bx := [], ex := [3, 5], rt := [4] }) I_20 X_21 h_38 (by exact rfl) ?_ ?_ ?_
            · rw [I_20_]
              refine ⟨?_, ?_, ?_, ?_, ?_, ?_, NoBox.restrict (by intro k hk hb; simp at hk hb; simp [hk, hb, h_4, h_5, h_6, h_10, h_14])⟩ <;> simp [restrict_env, restrict_mem, h_4, h_5, h_6, h_10, h_14]
            · intro s_18 σ_22 a_19 hI hp
              rw [I_20_] at hI
              obtain ⟨q_23, q_24, q_25, q_26, q_27, q_28, hn_29⟩ := hI
              try simp [h_4, h_5, h_6, h_10, h_14, q_23, q_24, q_25, q_26, q_27, q_28]
              rcases cond_cases hp with ⟨h_30, hp⟩ | ⟨h_30, hp⟩
              · try simp at h_30
                obtain ⟨e_31, h_32, hp⟩ := bind_some hp
                have b_33 := at_lo h_32
                have b_34 := at_hi h_32
                try simp at b_33
                try simp at b_34
                have c_35 := seg_at' h_32 0 1 (by decide) (ds := [.sc (.int .i64 e_31)]) rfl
                try simp at c_35
                try simp [h_4, h_5, h_6, h_10, h_14, q_23, q_24, q_25, q_26, q_27, q_28, h_30, b_33, b_34, c_35]
                rcases cond_cases hp with ⟨h_36, hp⟩ | ⟨h_36, hp⟩
                · try simp at h_36
                  cases hp
                  try simp [h_4, h_5, h_6, h_10, h_14, q_23, q_24, q_25, q_26, q_27, q_28, h_30, h_36]
                  refine goal_outR ?_
                  rw [X_21_]
                  refine ⟨_, rfl, ?_, ?_, NoBox.restrict (by intro k hk hb; simp at hk hb; simp [hk, hb, h_4, h_5, h_6, h_10, h_14, q_23, q_24, q_25, q_26, q_27, q_28, h_30, h_36, hn_29 k (by simp [hk, hb])])⟩ <;> simp [restrict_env, restrict_mem, h_4, h_5, h_6, h_10, h_14, q_23, q_24, q_25, q_26, q_27, q_28, h_30, h_36]
                · try simp at h_36
                  cases hp
                  try simp [h_4, h_5, h_6, h_10, h_14, q_23, q_24, q_25, q_26, q_27, q_28, h_30, h_36]
                  refine goal_next ?_
                  rw [I_20_]
                  refine ⟨?_, ?_, ?_, ?_, ?_, ?_, NoBox.restrict (by intro k hk hb; simp at hk hb; simp [hk, hb, h_4, h_5, h_6, h_10, h_14, q_23, q_24, q_25, q_26, q_27, q_28, h_30, h_36, hn_29 k (by simp [hk, hb])])⟩ <;> simp [restrict_env, restrict_mem, h_4, h_5, h_6, h_10, h_14, q_23, q_24, q_25, q_26, q_27, q_28, h_30, h_36]
              · try simp at h_30
                cases hp
                try simp [h_4, h_5, h_6, h_10, h_14, q_23, q_24, q_25, q_26, q_27, q_28, h_30]
                refine goal_outX ?_
                rw [X_21_]
                refine ⟨_, rfl, ?_, ?_, ?_, NoBox.restrict (by intro k hk hb; simp at hk hb; simp [hk, hb, h_4, h_5, h_6, h_10, h_14, q_23, q_24, q_25, q_26, q_27, q_28, h_30, hn_29 k (by simp [hk, hb])])⟩ <;> simp [restrict_env, restrict_mem, h_4, h_5, h_6, h_10, h_14, q_23, q_24, q_25, q_26, q_27, q_28, h_30]
            · intro out hX
              rw [X_21_] at hX
              rcases r_37 with r_37 | r_37
              · simp only [Sum.elim_inl, Sum.elim_inr] at hX hp
                obtain ⟨σ_39, rfl, q_40, q_41, hn_42⟩ := hX
                cases hp
                simp [Goal, FnEnd, h_4, h_5, h_6, h_10, h_14, q_40, q_41]
              · simp only [Sum.elim_inl, Sum.elim_inr] at hX hp
                obtain ⟨σ_43, rfl, q_44, q_45, q_46, hn_47⟩ := hX
                cases hp
                simp [Goal, FnEnd, h_4, h_5, h_6, h_10, h_14, q_44, q_45, q_46]
        · try simp at h_10
          cases hp
          simp [Goal, FnEnd, h_4, h_5, h_6, h_10]
  · try simp at h_4
    cases hp
    simp [Goal, FnEnd, h_4]
theorem pc147 : PC Try.prog 147 C147 := pc_of (g := g147) (ctxOK_of [(122, C122), (166, C166), (202, C202), (203, C203)] rfl ⟨pc122, pc166, pc202, pc203, trivial⟩) ⟨Try.f147, Try.func147, by kernel_rfl, by kernel_rfl⟩ fun x y h => w147 h
end Go.Proofs

