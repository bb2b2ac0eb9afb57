import Derived.Test.YtdjpaoikfigfhaaEvA13
set_option linter.unusedSimpArgs false
set_option linter.unusedVariables false
set_option linter.unnecessarySimpa false
namespace Go.Proofs
open Go.Ev
noncomputable def C264 : List AV → Option AV := specP (X := TStructure × TStructure × (List Int) × Unit) fun x => spec_IsEmbedding x.1 x.2.1 x.2.2.1
theorem C264_eq {s t to_} {y} (h : spec_IsEmbedding s t to_ = some y) : C264 [av .shr s, av .shr t, av .shr to_] = some (Res.res y) := specP_eq (X := TStructure × TStructure × (List Int) × Unit) (F := fun x => spec_IsEmbedding x.1 x.2.1 x.2.2.1) (x := (s, t, to_, ())) h
noncomputable def g264 : Cfg := { P := Try.prog, take := [], keep := [((264, 4), { hd := [2, 3, 4, 7], bx := [], ex := [2, 4], rt := [6] }), ((264, 9), { hd := [2, 4, 8], bx := [], ex := [], rt := [6] })], gho := [], ctx := [(111, C111), (164, C164), (265, C265)] }
@[simp] theorem g264_P : g264.P = Try.prog := rfl
@[simp] theorem g264_t : g264.take = [] := rfl
@[simp] theorem g264_g : g264.gho = [] := rfl
@[simp] theorem g264_r : g264.ro = [] := rfl
@[simp] theorem g264_w : g264.away = [] := by rw [g264]
@[simp] theorem g264_111 : lookN 111 g264.ctx = some C111 := rfl
@[simp] theorem g264_164 : lookN 164 g264.ctx = some C164 := rfl
@[simp] theorem g264_265 : lookN 265 g264.ctx = some C265 := rfl
set_option maxHeartbeats 4000000 in
set_option maxRecDepth 100000 in
theorem w264 {s t to_} {y} (hp : spec_IsEmbedding s t to_ = some y) : ∃ m, callo g264 0 264 [av .shr s, av .shr t, av .shr to_] mem0 = some (Res.res y, m) := by
  refine start_fn (Try.f264.body.getD .skip) [.tmp 6] rfl rfl Try.func264 (by kernel_rfl) (by kernel_rfl) (by simp [Try.ntmps264]) rfl ?_
  unfold spec_IsEmbedding at hp
  simp [Try.f264]
  rcases cond_cases hp with ⟨h_1, hp⟩ | ⟨h_1, hp⟩
  · try simp at h_1
    cases hp
    simp [Goal, FnEnd, h_1]
  · try simp at h_1
    try simp [h_1]
    obtain ⟨r_35, h_36, hp⟩ := bind_some hp
    obtain ⟨I_4, I_4_⟩ : ∃ I : Int → St → Prop, I = (fun (s_2 : Int) (σ : St) => σ.env 2 = .one (.l .shr to_.length (encL to_)) ∧ σ.env 3 = .one (.ptr (1, 3) 0) ∧ σ.env 4 = .one (.ptr (1, 4) 0) ∧ σ.env 7 = .one (.s (.int .i64 s_2)) ∧ σ.mem (1, 3) = some [(.l .shr s.nodes.length (encL s.nodes)), (.l .shr s.next.length (encL s.next))] ∧ σ.mem (1, 4) = some [(.l .shr t.nodes.length (encL t.nodes)), (.l .shr t.next.length (encL t.next))] ∧ NoBox [(1, 3), (1, 4)] σ.mem) := ⟨_, rfl⟩
    obtain ⟨X_5, X_5_⟩ : ∃ X : ((Unit) ⊕ (Unit)) → Out → Prop, X = (fun (r_35 : (Unit) ⊕ (Unit)) (out : Out) => Sum.elim (fun r_35 => ∃ σ : St, out = .ret σ ∧ σ.env 6 = .one (.s (.bool false)) ∧ σ.mem (1, 3) = some [(.l .shr s.nodes.length (encL s.nodes)), (.l .shr s.next.length (encL s.next))] ∧ σ.mem (1, 4) = some [(.l .shr t.nodes.length (encL t.nodes)), (.l .shr t.next.length (encL t.next))] ∧ NoBox [(1, 3), (1, 4)] σ.mem) (fun r_35 => ∃ σ : St, out = .exit 0 σ ∧ σ.env 2 = .one (.l .shr to_.length (encL to_)) ∧ σ.env 4 = .one (.ptr (1, 4) 0) ∧ σ.mem (1, 3) = some [(.l .shr s.nodes.length (encL s.nodes)), (.l .shr s.next.length (encL s.next))] ∧ σ.mem (1, 4) = some [(.l .shr t.nodes.length (encL t.nodes)), (.l .shr t.next.length (encL t.next))] ∧ NoBox [(1, 3), (1, 4)] σ.mem) r_35) := ⟨_, rfl⟩
    refine loopP ({ hd := [2, 3, 4, 7], bx := [], ex := [2, 4], rt := [6] }) I_4 X_5 h_36 (by exact rfl) ?_ ?_ ?_
    · rw [I_4_]
      refine ⟨?_, ?_, ?_, ?_, ?_, ?_, NoBox.restrict (by intro k hk hb; simp at hk hb; simp [hk, hb, h_1])⟩ <;> simp [restrict_env, restrict_mem, h_1]
    · intro s_2 σ_6 a_3 hI hp
      rw [I_4_] at hI
      obtain ⟨q_7, q_8, q_9, q_10, q_11, q_12, hn_13⟩ := hI
      try simp [h_1, q_7, q_8, q_9, q_10, q_11, q_12]
      rcases cond_cases hp with ⟨h_14, hp⟩ | ⟨h_14, hp⟩
      · try simp at h_14
        obtain ⟨e_15, h_16, hp⟩ := bind_some hp
        have b_17 := at_lo h_16
        have b_18 := at_hi h_16
        try simp at b_17
        try simp at b_18
        have c_19 := seg_at' h_16 0 1 (by decide) (ds := [.sc (.int .i64 e_15)]) rfl
        try simp at c_19
        obtain ⟨y_20, h_21, hp⟩ := bind_some hp
        have c_22 := C111_eq h_21
        simp at c_22
        try simp [h_1, q_7, q_8, q_9, q_10, q_11, q_12, h_14, b_17, b_18, c_19, c_22]
        rcases cond_cases hp with ⟨h_23, hp⟩ | ⟨h_23, hp⟩
        · try simp at h_23
          obtain ⟨z_24, h_25, hp⟩ := bind_some hp
          have c_27 := slc_1 h_25
          have c_28 := slc_2 h_25
          have c_29 := slc_3 h_25
          have c_30 := slc_4 h_25
          try simp at c_27
          try simp at c_28
          try simp at c_29
          try simp [c_29] at c_30
          obtain ⟨y_31, h_32, hp⟩ := bind_some hp
          have c_33 := C265_eq h_32
          simp at c_33
          try simp [h_1, q_7, q_8, q_9, q_10, q_11, q_12, h_14, h_23, c_27, c_28, c_29, c_30, c_33]
          rcases cond_cases hp with ⟨h_34, hp⟩ | ⟨h_34, hp⟩
          · try simp at h_34
            cases hp
            try simp [h_1, q_7, q_8, q_9, q_10, q_11, q_12, h_14, h_23, h_34]
            refine goal_next ?_
            rw [I_4_]
            refine ⟨?_, ?_, ?_, ?_, ?_, ?_, NoBox.restrict (by intro k hk hb; simp at hk hb; simp [hk, hb, h_1, q_7, q_8, q_9, q_10, q_11, q_12, h_14, h_23, h_34, hn_13 k (by simp [hk, hb])])⟩ <;> simp [restrict_env, restrict_mem, h_1, q_7, q_8, q_9, q_10, q_11, q_12, h_14, h_23, h_34]
          · try simp at h_34
            cases hp
            try simp [h_1, q_7, q_8, q_9, q_10, q_11, q_12, h_14, h_23, h_34]
            refine goal_outR ?_
            rw [X_5_]
            refine ⟨_, rfl, ?_, ?_, ?_, NoBox.restrict (by intro k hk hb; simp at hk hb; simp [hk, hb, h_1, q_7, q_8, q_9, q_10, q_11, q_12, h_14, h_23, h_34, hn_13 k (by simp [hk, hb])])⟩ <;> simp [restrict_env, restrict_mem, h_1, q_7, q_8, q_9, q_10, q_11, q_12, h_14, h_23, h_34]
        · try simp at h_23
          cases hp
          try simp [h_1, q_7, q_8, q_9, q_10, q_11, q_12, h_14, h_23]
          refine goal_outR ?_
          rw [X_5_]
          refine ⟨_, rfl, ?_, ?_, ?_, NoBox.restrict (by intro k hk hb; simp at hk hb; simp [hk, hb, h_1, q_7, q_8, q_9, q_10, q_11, q_12, h_14, h_23, hn_13 k (by simp [hk, hb])])⟩ <;> simp [restrict_env, restrict_mem, h_1, q_7, q_8, q_9, q_10, q_11, q_12, h_14, h_23]
      · try simp at h_14
        cases hp
        try simp [h_1, q_7, q_8, q_9, q_10, q_11, q_12, h_14]
        refine goal_outX ?_
        rw [X_5_]
        refine ⟨_, rfl, ?_, ?_, ?_, ?_, NoBox.restrict (by intro k hk hb; simp at hk hb; simp [hk, hb, h_1, q_7, q_8, q_9, q_10, q_11, q_12, h_14, hn_13 k (by simp [hk, hb])])⟩ <;> simp [restrict_env, restrict_mem, h_1, q_7, q_8, q_9, q_10, q_11, q_12, h_14]
    · intro out hX
      rw [X_5_] at hX
      rcases r_35 with r_35 | r_35
      · simp only [Sum.elim_inl, Sum.elim_inr] at hX hp
        obtain ⟨σ_37, rfl, q_38, q_39, q_40, hn_41⟩ := hX
        cases hp
        simp [Goal, FnEnd, h_1, q_38, q_39, q_40]
      · simp only [Sum.elim_inl, Sum.elim_inr] at hX hp
        obtain ⟨σ_42, rfl, q_43, q_44, q_45, q_46, hn_47⟩ := hX
        try simp [h_1, q_43, q_44, q_45, q_46]
        obtain ⟨r_64, h_65, hp⟩ := bind_some hp
        obtain ⟨I_50, I_50_⟩ : ∃ I : Int → St → Prop, I = (fun (s_48 : Int) (σ : St) => σ.env 2 = .one (.l .shr to_.length (encL to_)) ∧ σ.env 4 = .one (.ptr (1, 4) 0) ∧ σ.env 8 = .one (.s (.int .i64 s_48)) ∧ σ.mem (1, 3) = some [(.l .shr s.nodes.length (encL s.nodes)), (.l .shr s.next.length (encL s.next))] ∧ σ.mem (1, 4) = some [(.l .shr t.nodes.length (encL t.nodes)), (.l .shr t.next.length (encL t.next))] ∧ NoBox [(1, 3), (1, 4)] σ.mem) := ⟨_, rfl⟩
        obtain ⟨X_51, X_51_⟩ : ∃ X : ((Bool) ⊕ (Unit)) → Out → Prop, X = (fun (r_64 : (Bool) ⊕ (Unit)) (out : Out) => Sum.elim (fun r_64 => ∃ σ : St, out = .ret σ ∧ σ.env 6 = .one (.s (.bool r_64)) ∧ σ.mem (1, 3) = some [(.l .shr s.nodes.length (encL s.nodes)), (.l .shr s.next.length (encL s.next))] ∧ σ.mem (1, 4) = some [(.l .shr t.nodes.length (encL t.nodes)), (.l .shr t.next.length (encL t.next))] ∧ NoBox [(1, 3), (1, 4)] σ.mem) (fun r_64 => ∃ σ : St, out = .exit 2 σ ∧ σ.mem (1, 3) = some [(.l .shr s.nodes.length (encL s.nodes)), (.l .shr s.next.length (encL s.next))] ∧ σ.mem (1, 4) = some [(.l .shr t.nodes.length (encL t.nodes)), (.l .shr t.next.length (encL t.next))] ∧ NoBox [(1, 3), (1, 4)] σ.mem) r_64) := ⟨_, rfl⟩
        refine loopP ({ hd := [2, 4, 8], bx := [], ex := [], rt := [6] }) I_50 X_51 h_65 (by exact rfl) ?_ ?_ ?_
        · rw [I_50_]
          refine ⟨?_, ?_, ?_, ?_, ?_, NoBox.restrict (by intro k hk hb; simp at hk hb; simp [hk, hb, h_1, q_43, q_44, q_45, q_46, hn_47 k (by simp [hk, hb])])⟩ <;> simp [restrict_env, restrict_mem, h_1, q_43, q_44, q_45, q_46]
        · intro s_48 σ_52 a_49 hI hp
          rw [I_50_] at hI
          obtain ⟨q_53, q_54, q_55, q_56, q_57, hn_58⟩ := hI
          try simp [h_1, q_53, q_54, q_55, q_56, q_57]
          rcases cond_cases hp with ⟨h_59, hp⟩ | ⟨h_59, hp⟩
          · try simp at h_59
            obtain ⟨y_60, h_61, hp⟩ := bind_some hp
            have c_62 := C164_eq h_61
            simp at c_62
            try simp [h_1, q_53, q_54, q_55, q_56, q_57, h_59, c_62]
            rcases cond_cases hp with ⟨h_63, hp⟩ | ⟨h_63, hp⟩
            · try simp at h_63
              cases hp
              try simp [h_1, q_53, q_54, q_55, q_56, q_57, h_59, h_63]
              refine goal_next ?_
              rw [I_50_]
              refine ⟨?_, ?_, ?_, ?_, ?_, NoBox.restrict (by intro k hk hb; simp at hk hb; simp [hk, hb, h_1, q_53, q_54, q_55, q_56, q_57, h_59, h_63, hn_58 k (by simp [hk, hb])])⟩ <;> simp [restrict_env, restrict_mem, h_1, q_53, q_54, q_55, q_56, q_57, h_59, h_63]
            · try simp at h_63
              cases hp
              try simp [h_1, q_53, q_54, q_55, q_56, q_57, h_59, h_63]
              refine goal_outR ?_
              rw [X_51_]
              refine ⟨_, rfl, ?_, ?_, ?_, NoBox.restrict (by intro k hk hb; simp at hk hb; simp [hk, hb, h_1, q_53, q_54, q_55, q_56, q_57, h_59, h_63, hn_58 k (by simp [hk, hb])])⟩ <;> simp [restrict_env, restrict_mem, h_1, q_53, q_54, q_55, q_56, q_57, h_59, h_63]
          · try simp at h_59
            cases hp
            try simp [h_1, q_53, q_54, q_55, q_56, q_57, h_59]
            refine goal_outX ?_
            rw [X_51_]
            refine ⟨_, rfl, ?_, ?_, NoBox.restrict (by intro k hk hb; simp at hk hb; simp [hk, hb, h_1, q_53, q_54, q_55, q_56, q_57, h_59, hn_58 k (by simp [hk, hb])])⟩ <;> simp [restrict_env, restrict_mem, h_1, q_53, q_54, q_55, q_56, q_57, h_59]
        · intro out hX
          rw [X_51_] at hX
          rcases r_64 with r_64 | r_64
          · simp only [Sum.elim_inl, Sum.elim_inr] at hX hp
            obtain ⟨σ_66, rfl, q_67, q_68, q_69, hn_70⟩ := hX
            cases hp
            simp [Goal, FnEnd, h_1, q_67, q_68, q_69]
          · simp only [Sum.elim_inl, Sum.elim_inr] at hX hp
            obtain ⟨σ_71, rfl, q_72, q_73, hn_74⟩ := hX
            cases hp
            simp [Goal, FnEnd, h_1, q_72, q_73]
theorem pc264 : PC Try.prog 264 C264 := pc_of (g := g264) (ctxOK_of [(111, C111), (164, C164), (265, C265)] rfl ⟨pc111, pc164, pc265, trivial⟩) ⟨Try.f264, Try.func264, by kernel_rfl, by kernel_rfl⟩ fun x y h => w264 h

abbrev G256 (g : Cfg) : Prop := Has Try.prog g 256 Try.f256 [41] [(4, { hd := [2, 3, 4, 8], bx := [], ex := [], rt := [6, 7] })] [(264, C264), (265, C265)] []
set_option maxHeartbeats 4000000 in
set_option maxRecDepth 100000 in
theorem wI256 {g : Cfg} (G : G256 g) (fu : Nat) : ∀ {d : Nat} {mem : Mem} (hT : Tight d mem)  {s : TStructure} {t : TStructure} {to_ : (List Int)} {m_0 : Md} (hm_0 : LentM m_0) {m_1 : Md} (hm_1 : LentM m_1) {m_2 : Md} (hm_2 : LentM m_2) {y} (hp : fixN R_spec_l16Find fu (s, t, to_, ()) = some y), ∃ r, callo g d 256 [av m_0 s, av m_1 t, av m_2 to_] mem = some (r, mem) ∧ ∃ me_0 : Md, r = .tu [tupM me_0 y.1, tup y.2] := by
  have gP := G.P; have gt := G.tk; have gr := G.ro; have gg := G.gh
  have i_256 := G.no
  have k_4 := G.kp (4, { hd := [2, 3, 4, 8], bx := [], ex := [], rt := [6, 7] }) (by simp)
  have c_264 := G.cs (264, C264) (by simp)
  have c_265 := G.cs (265, C265) (by simp)
  induction fu with
  | zero => intros; exact absurd ‹fixN _ 0 _ = some _› (by simp [fixN])
  | succ fu ih =>
    intro d mem hT s t to_ m_0 hm_0 m_1 hm_1 m_2 hm_2 y hp
    have hT2 : memKill (fun k => decide (d < k.1)) mem = mem := hT
    have hm0 : ∀ t, mem (d + 1, t) = none := fun t => hT.none (by simp)
    refine start_ex (Try.f256.body.getD .skip) [.tmp 6, .tmp 7] G Try.func256 (by kernel_rfl) (by simp [Try.ntmps256]) rfl ?_
    replace hp : B_spec_l16Find (fun s t to_ => fixN R_spec_l16Find fu (s, t, to_, ())) s t to_ = some y := hp
    unfold B_spec_l16Find at hp
    simp [Try.f256, gP, gt, gr, gg, hm0, i_256, hm_0.copy, hm_0.elem, hm_1.copy, hm_1.elem, hm_2.copy, hm_2.elem]
    rcases cond_cases hp with ⟨h_1, hp⟩ | ⟨h_1, hp⟩
    · try simp at h_1
      obtain ⟨y_2, h_3, hp⟩ := bind_some hp
      have c_4 := C264_eq h_3
      simp at c_4
      cases hp
      simp [Goal, FnEndE, memKill_hi, retR, rsrc, RSrc.val, nodupR, nodup, tupPart, gP, gt, gr, gg, hm0, c_264, i_256, hm_0.copy, hm_0.elem, hm_1.copy, hm_1.elem, hm_2.copy, hm_2.elem, h_1, c_4, hT2]
    · try simp at h_1
      try simp [gP, gt, gr, gg, hm0, c_264, c_265, i_256, hm_0.copy, hm_0.elem, hm_1.copy, hm_1.elem, hm_2.copy, hm_2.elem, h_1]
      obtain ⟨r_32, h_33, hp⟩ := bind_some hp
      obtain ⟨I_7, I_7_⟩ : ∃ I : Int → St → Prop, I = (fun (s_5 : Int) (σ : St) => σ.env 2 = .one (.l m_2 to_.length (encL to_)) ∧ σ.env 3 = .one (.ptr (d + 1, 3) 0) ∧ σ.env 4 = .one (.ptr (d + 1, 4) 0) ∧ σ.env 8 = .one (.s (.int .i64 s_5)) ∧ σ.mem (d + 1, 3) = some [(.l m_0 s.nodes.length (encL s.nodes)), (.l m_0 s.next.length (encL s.next))] ∧ σ.mem (d + 1, 4) = some [(.l m_1 t.nodes.length (encL t.nodes)), (.l m_1 t.next.length (encL t.next))] ∧ Tight (d + 1) σ.mem ∧ Agree d mem σ.mem ∧ NoBoxD d [(d + 1, 3), (d + 1, 4)] σ.mem) := ⟨_, rfl⟩
      obtain ⟨X_8, X_8_⟩ : ∃ X : (((List Int) × Bool) ⊕ (Unit)) → Out → Prop, X = (fun (r_32 : ((List Int) × Bool) ⊕ (Unit)) (out : Out) => Sum.elim (fun r_32 => ∃ σ : St, out = .ret σ ∧ (∃ mq_34 : Md, σ.env 6 = .one (.l mq_34 r_32.1.length (encL r_32.1))) ∧ σ.env 7 = .one (.s (.bool r_32.2)) ∧ σ.mem (d + 1, 3) = some [(.l m_0 s.nodes.length (encL s.nodes)), (.l m_0 s.next.length (encL s.next))] ∧ σ.mem (d + 1, 4) = some [(.l m_1 t.nodes.length (encL t.nodes)), (.l m_1 t.next.length (encL t.next))] ∧ Tight (d + 1) σ.mem ∧ Agree d mem σ.mem ∧ NoBoxD d [(d + 1, 3), (d + 1, 4)] σ.mem) (fun r_32 => ∃ σ : St, out = .exit 0 σ ∧ σ.mem (d + 1, 3) = some [(.l m_0 s.nodes.length (encL s.nodes)), (.l m_0 s.next.length (encL s.next))] ∧ σ.mem (d + 1, 4) = some [(.l m_1 t.nodes.length (encL t.nodes)), (.l m_1 t.next.length (encL t.next))] ∧ Tight (d + 1) σ.mem ∧ Agree d mem σ.mem ∧ NoBoxD d [(d + 1, 3), (d + 1, 4)] σ.mem) r_32) := ⟨_, rfl⟩
      refine loopP ({ hd := [2, 3, 4, 8], bx := [], ex := [], rt := [6, 7] }) I_7 X_8 h_33 (by exact k_4) ?_ ?_ ?_
      · rw [I_7_]
        refine ⟨?_, ?_, ?_, ?_, ?_, ?_, (by repeat (first | exact tight_mem0 _ | exact hT.up | exact hT | refine Tight.restrict ?_ | refine Tight.upd ?_ (by simp) (by simp))), (by repeat (first | exact fun k hk => rfl | refine Agree.restrict hT ?_ | refine Agree.upd ?_ (by simp))), NoBoxD.restrict (by intro k hd hk hb; simp at hk hb; simp [hk, hb, gP, gt, gr, gg, hm0, c_264, c_265, i_256, hm_0.copy, hm_0.elem, hm_1.copy, hm_1.elem, hm_2.copy, hm_2.elem, h_1, hT.none hd])⟩ <;> simp [restrict_env, restrict_mem, gP, gt, gr, gg, hm0, c_264, c_265, i_256, hm_0.copy, hm_0.elem, hm_1.copy, hm_1.elem, hm_2.copy, hm_2.elem, h_1]
      · intro s_5 σ_9 a_6 hI hp
        rw [I_7_] at hI
        obtain ⟨q_10, q_11, q_12, q_13, q_14, q_15, ht_16, ha_17, hn_18⟩ := hI
        try simp [gP, gt, gr, gg, hm0, c_264, c_265, i_256, hm_0.copy, hm_0.elem, hm_1.copy, hm_1.elem, hm_2.copy, hm_2.elem, h_1, q_10, q_11, q_12, q_13, q_14, q_15]
        rcases cond_cases hp with ⟨h_19, hp⟩ | ⟨h_19, hp⟩
        · try simp at h_19
          obtain ⟨_, h_20, hp⟩ := bind_some hp
          have b_21 := room_ok h_20
          try simp at b_21
          obtain ⟨_, h_22, hp⟩ := bind_some hp
          have b_23 := room_ok h_22
          try simp at b_23
          obtain ⟨y_24, h_25, hp⟩ := bind_some hp
          have c_26 := C265_eq h_25
          simp at c_26
          try simp [gP, gt, gr, gg, hm0, c_264, c_265, i_256, hm_0.copy, hm_0.elem, hm_1.copy, hm_1.elem, hm_2.copy, hm_2.elem, h_1, q_10, q_11, q_12, q_13, q_14, q_15, h_19, b_21, b_23, c_26]
          rcases cond_cases hp with ⟨h_27, hp⟩ | ⟨h_27, hp⟩
          · try simp at h_27
            obtain ⟨y_28, h_29, hp⟩ := bind_some hp
            try simp [gP, gt, gr, gg, hm0, c_264, c_265, i_256, hm_0.copy, hm_0.elem, hm_1.copy, hm_1.elem, hm_2.copy, hm_2.elem, h_1, q_10, q_11, q_12, q_13, q_14, q_15, h_19, h_27]
            refine goal_callE [av m_0 s, av m_1 t, av .bor (to_ ++ [s_5])] (fun r => ∃ me_30 : Md, r = .tu [tupM me_30 y_28.1, tup y_28.2]) (by simp [gP, gt, gr, gg, hm0, c_264, c_265, i_256, hm_0.copy, hm_0.elem, hm_1.copy, hm_1.elem, hm_2.copy, hm_2.elem, h_1, q_10, q_11, q_12, q_13, q_14, q_15, h_19, h_27]) (ih (by repeat (first | exact ht_16 | exact tight_mem0 _ | exact hT.up | exact hT | (simp only [q_10, q_11, q_12, q_13, q_14, q_15]; done) | refine Tight.upd ?_ (by simp) (by simp))) hm_0 hm_1 (.inr rfl) h_29) ?_
            rintro _ ⟨me_30, rfl⟩
            try simp [gP, gt, gr, gg, hm0, c_264, c_265, i_256, hm_0.copy, hm_0.elem, hm_1.copy, hm_1.elem, hm_2.copy, hm_2.elem, h_1, q_10, q_11, q_12, q_13, q_14, q_15, h_19, h_27]
            rcases cond_cases hp with ⟨h_31, hp⟩ | ⟨h_31, hp⟩
            · try simp at h_31
              cases hp
              try simp [gP, gt, gr, gg, hm0, c_264, c_265, i_256, hm_0.copy, hm_0.elem, hm_1.copy, hm_1.elem, hm_2.copy, hm_2.elem, h_1, q_10, q_11, q_12, q_13, q_14, q_15, h_19, h_27, h_31]
              refine goal_outR ?_
              rw [X_8_]
              refine ⟨_, rfl, ⟨me_30.copy, by simp [restrict_env, gP, gt, gr, gg, hm0, c_264, c_265, i_256, hm_0.copy, hm_0.elem, hm_1.copy, hm_1.elem, hm_2.copy, hm_2.elem, h_1, q_10, q_11, q_12, q_13, q_14, q_15, h_19, h_27, h_31]⟩, ?_, ?_, ?_, (by repeat (first | exact ht_16 | exact tight_mem0 _ | exact hT.up | exact hT | refine Tight.restrict ?_ | refine Tight.upd ?_ (by simp) (by simp))), (by repeat (first | exact ha_17 | exact fun k hk => rfl | refine Agree.restrict hT ?_ | refine Agree.upd ?_ (by simp))), NoBoxD.restrict (by intro k hd hk hb; simp at hk hb; simp [hk, hb, gP, gt, gr, gg, hm0, c_264, c_265, i_256, hm_0.copy, hm_0.elem, hm_1.copy, hm_1.elem, hm_2.copy, hm_2.elem, h_1, q_10, q_11, q_12, q_13, q_14, q_15, h_19, h_27, h_31, hn_18 k hd (by simp [hk, hb])])⟩ <;> simp [restrict_env, restrict_mem, gP, gt, gr, gg, hm0, c_264, c_265, i_256, hm_0.copy, hm_0.elem, hm_1.copy, hm_1.elem, hm_2.copy, hm_2.elem, h_1, q_10, q_11, q_12, q_13, q_14, q_15, h_19, h_27, h_31]
            · try simp at h_31
              cases hp
              try simp [gP, gt, gr, gg, hm0, c_264, c_265, i_256, hm_0.copy, hm_0.elem, hm_1.copy, hm_1.elem, hm_2.copy, hm_2.elem, h_1, q_10, q_11, q_12, q_13, q_14, q_15, h_19, h_27, h_31]
              refine goal_next ?_
              rw [I_7_]
              refine ⟨?_, ?_, ?_, ?_, ?_, ?_, (by repeat (first | exact ht_16 | exact tight_mem0 _ | exact hT.up | exact hT | refine Tight.restrict ?_ | refine Tight.upd ?_ (by simp) (by simp))), (by repeat (first | exact ha_17 | exact fun k hk => rfl | refine Agree.restrict hT ?_ | refine Agree.upd ?_ (by simp))), NoBoxD.restrict (by intro k hd hk hb; simp at hk hb; simp [hk, hb, gP, gt, gr, gg, hm0, c_264, c_265, i_256, hm_0.copy, hm_0.elem, hm_1.copy, hm_1.elem, hm_2.copy, hm_2.elem, h_1, q_10, q_11, q_12, q_13, q_14, q_15, h_19, h_27, h_31, hn_18 k hd (by simp [hk, hb])])⟩ <;> simp [restrict_env, restrict_mem, gP, gt, gr, gg, hm0, c_264, c_265, i_256, hm_0.copy, hm_0.elem, hm_1.copy, hm_1.elem, hm_2.copy, hm_2.elem, h_1, q_10, q_11, q_12, q_13, q_14, q_15, h_19, h_27, h_31]
          · try simp at h_27
            cases hp
            try simp [gP, gt, gr, gg, hm0, c_264, c_265, i_256, hm_0.copy, hm_0.elem, hm_1.copy, hm_1.elem, hm_2.copy, hm_2.elem, h_1, q_10, q_11, q_12, q_13, q_14, q_15, h_19, h_27]
            refine goal_next ?_
            rw [I_7_]
            refine ⟨?_, ?_, ?_, ?_, ?_, ?_, (by repeat (first | exact ht_16 | exact tight_mem0 _ | exact hT.up | exact hT | refine Tight.restrict ?_ | refine Tight.upd ?_ (by simp) (by simp))), (by repeat (first | exact ha_17 | exact fun k hk => rfl | refine Agree.restrict hT ?_ | refine Agree.upd ?_ (by simp))), NoBoxD.restrict (by intro k hd hk hb; simp at hk hb; simp [hk, hb, gP, gt, gr, gg, hm0, c_264, c_265, i_256, hm_0.copy, hm_0.elem, hm_1.copy, hm_1.elem, hm_2.copy, hm_2.elem, h_1, q_10, q_11, q_12, q_13, q_14, q_15, h_19, h_27, hn_18 k hd (by simp [hk, hb])])⟩ <;> simp [restrict_env, restrict_mem, gP, gt, gr, gg, hm0, c_264, c_265, i_256, hm_0.copy, hm_0.elem, hm_1.copy, hm_1.elem, hm_2.copy, hm_2.elem, h_1, q_10, q_11, q_12, q_13, q_14, q_15, h_19, h_27]
        · try simp at h_19
          cases hp
          try simp [gP, gt, gr, gg, hm0, c_264, c_265, i_256, hm_0.copy, hm_0.elem, hm_1.copy, hm_1.elem, hm_2.copy, hm_2.elem, h_1, q_10, q_11, q_12, q_13, q_14, q_15, h_19]
          refine goal_outX ?_
          rw [X_8_]
          refine ⟨_, rfl, ?_, ?_, (by repeat (first | exact ht_16 | exact tight_mem0 _ | exact hT.up | exact hT | refine Tight.restrict ?_ | refine Tight.upd ?_ (by simp) (by simp))), (by repeat (first | exact ha_17 | exact fun k hk => rfl | refine Agree.restrict hT ?_ | refine Agree.upd ?_ (by simp))), NoBoxD.restrict (by intro k hd hk hb; simp at hk hb; simp [hk, hb, gP, gt, gr, gg, hm0, c_264, c_265, i_256, hm_0.copy, hm_0.elem, hm_1.copy, hm_1.elem, hm_2.copy, hm_2.elem, h_1, q_10, q_11, q_12, q_13, q_14, q_15, h_19, hn_18 k hd (by simp [hk, hb])])⟩ <;> simp [restrict_env, restrict_mem, gP, gt, gr, gg, hm0, c_264, c_265, i_256, hm_0.copy, hm_0.elem, hm_1.copy, hm_1.elem, hm_2.copy, hm_2.elem, h_1, q_10, q_11, q_12, q_13, q_14, q_15, h_19]
      · intro out hX
        rw [X_8_] at hX
        rcases r_32 with r_32 | r_32
        · simp only [Sum.elim_inl, Sum.elim_inr] at hX hp
          obtain ⟨σ_35, rfl, ⟨mq_34, q_36⟩, q_37, q_38, q_39, ht_40, ha_41, hn_42⟩ := hX
          cases hp
          simp [Goal, FnEndE, memKill_hi, retR, rsrc, RSrc.val, nodupR, nodup, tupPart, gP, gt, gr, gg, hm0, c_264, c_265, i_256, hm_0.copy, hm_0.elem, hm_1.copy, hm_1.elem, hm_2.copy, hm_2.elem, h_1, q_36, q_37, q_38, q_39, kill_back ha_41 hT]
        · simp only [Sum.elim_inl, Sum.elim_inr] at hX hp
          obtain ⟨σ_43, rfl, q_44, q_45, ht_46, ha_47, hn_48⟩ := hX
          cases hp
          simp [Goal, FnEndE, memKill_hi, retR, rsrc, RSrc.val, nodupR, nodup, tupPart, gP, gt, gr, gg, hm0, c_264, c_265, i_256, hm_0.copy, hm_0.elem, hm_1.copy, hm_1.elem, hm_2.copy, hm_2.elem, h_1, q_44, q_45, kill_back ha_47 hT]

noncomputable def C234 : List AV → Option AV := specP (X := TStructure × TStructure × Unit) fun x => spec_FindEmbedding x.1 x.2.1
theorem C234_eq {s t} {y} (h : spec_FindEmbedding s t = some y) : C234 [av .shr s, av .shr t] = some (Res.res y) := specP_eq (X := TStructure × TStructure × Unit) (F := fun x => spec_FindEmbedding x.1 x.2.1) (x := (s, t, ())) h
noncomputable def g234 : Cfg := { P := Try.prog, take := [(234, 8), (256, 41)], keep := [((256, 4), { hd := [2, 3, 4, 8], bx := [], ex := [], rt := [6, 7] })], gho := [], ctx := [(264, C264), (265, C265)] }
@[simp] theorem g234_P : g234.P = Try.prog := rfl
@[simp] theorem g234_t : g234.take = [(234, 8), (256, 41)] := rfl
@[simp] theorem g234_g : g234.gho = [] := rfl
@[simp] theorem g234_r : g234.ro = [] := rfl
@[simp] theorem g234_w : g234.away = [] := by rw [g234]
@[simp] theorem g234_264 : lookN 264 g234.ctx = some C264 := rfl
@[simp] theorem g234_265 : lookN 265 g234.ctx = some C265 := rfl
@[simp] theorem g234_256 : lookN 256 g234.ctx = none := rfl
set_option maxHeartbeats 4000000 in
set_option maxRecDepth 100000 in
theorem w234 {s t} {y} (hp : spec_FindEmbedding s t = some y) : ∃ m, callo g234 0 234 [av .shr s, av .shr t] mem0 = some (Res.res y, m) := by
  have G_256 : G256 g234 := ⟨rfl, by kernel_rfl, rfl, fun t => by simp, noAway (fun t => by simp) (by simp), fun i => by simp [lookK], by simp [g234, lookK], by simp⟩
  refine start_fn (Try.f234.body.getD .skip) [.tmp 4, .tmp 5] rfl rfl Try.func234 (by kernel_rfl) (by kernel_rfl) (by simp [Try.ntmps234]) rfl ?_
  unfold spec_FindEmbedding at hp
  obtain ⟨y_1, h_2, hp⟩ := bind_some hp
  simp [Try.f234]
  refine goal_callE [av .shr s, av .shr t, av .bor []] (fun r => ∃ me_3 : Md, r = .tu [tupM me_3 y_1.1, tup y_1.2]) (by simp) (wI256 G_256 _ (by repeat (first | exact tight_mem0 _ | exact hT.up | exact hT | (simp only [true_and]; done) | refine Tight.upd ?_ (by simp) (by simp))) (.inl rfl) (.inl rfl) (.inr rfl) (fixO_some h_2).choose_spec) ?_
  rintro _ ⟨me_3, rfl⟩
  try simp
  rcases cond_cases hp with ⟨h_4, hp⟩ | ⟨h_4, hp⟩
  · try simp at h_4
    obtain ⟨_, h_5, hp⟩ := bind_some hp
    have b_6 := room_ok h_5
    try simp at b_6
    cases hp
    simp [Goal, FnEnd, retR, rsrc, RSrc.val, nodupR, nodup, tupPart, h_4, b_6]
  · try simp at h_4
    cases hp
    simp [Goal, FnEnd, retR, rsrc, RSrc.val, nodupR, nodup, tupPart, h_4]
theorem pc234 : PC Try.prog 234 C234 := pc_of (g := g234) (ctxOK_of [(264, C264), (265, C265)] rfl ⟨pc264, pc265, trivial⟩) ⟨Try.f234, Try.func234, by kernel_rfl, by kernel_rfl⟩ fun x y h => w234 h

noncomputable def C182 : List AV → Option AV := specP (X := TStructure × TStructure × Unit) fun x => spec_IsEmbedded x.1 x.2.1
theorem C182_eq {s t} {y} (h : spec_IsEmbedded s t = some y) : C182 [av .shr s, av .shr t] = some (Res.res y) := specP_eq (X := TStructure × TStructure × Unit) (F := fun x => spec_IsEmbedded x.1 x.2.1) (x := (s, t, ())) h
noncomputable def g182 : Cfg := { P := Try.prog, take := [(182, 7)], keep := [], gho := [], ctx := [(234, C234)] }
@[simp] theorem g182_P : g182.P = Try.prog := rfl
@[simp] theorem g182_t : g182.take = [(182, 7)] := rfl
@[simp] theorem g182_g : g182.gho = [] := rfl
@[simp] theorem g182_r : g182.ro = [] := rfl
@[simp] theorem g182_w : g182.away = [] := by rw [g182]
@[simp] theorem g182_234 : lookN 234 g182.ctx = some C234 := rfl
set_option maxHeartbeats 4000000 in
set_option maxRecDepth 100000 in
theorem w182 {s t} {y} (hp : spec_IsEmbedded s t = some y) : ∃ m, callo g182 0 182 [av .shr s, av .shr t] mem0 = some (Res.res y, m) := by
  refine start_fn (Try.f182.body.getD .skip) [.tmp 4] rfl rfl Try.func182 (by kernel_rfl) (by kernel_rfl) (by simp [Try.ntmps182]) rfl ?_
  unfold spec_IsEmbedded at hp
  obtain ⟨y_1, h_2, hp⟩ := bind_some hp
  have c_3 := C234_eq h_2
  simp at c_3
  cases hp
  simp [Try.f182, Goal, FnEnd, c_3]
theorem pc182 : PC Try.prog 182 C182 := pc_of (g := g182) (ctxOK_of [(234, C234)] rfl ⟨pc234, trivial⟩) ⟨Try.f182, Try.func182, by kernel_rfl, by kernel_rfl⟩ fun x y h => w182 h

noncomputable def C139 : List AV → Option AV := specP (X := TStructure × THeap × Unit) fun x => spec_Describes x.1 x.2.1
theorem C139_eq {t h_} {y} (h : spec_Describes t h_ = some y) : C139 [av .shr t, av .shr h_] = some (Res.res y) := specP_eq (X := TStructure × THeap × Unit) (F := fun x => spec_Describes x.1 x.2.1) (x := (t, h_, ())) h
noncomputable def g139 : Cfg := { P := Try.prog, take := [], keep := [], gho := [], ctx := [(99, C99), (182, C182)] }
@[simp] theorem g139_P : g139.P = Try.prog := rfl
@[simp] theorem g139_t : g139.take = [] := rfl
@[simp] theorem g139_g : g139.gho = [] := rfl
@[simp] theorem g139_r : g139.ro = [] := rfl
@[simp] theorem g139_w : g139.away = [] := by rw [g139]
@[simp] theorem g139_99 : lookN 99 g139.ctx = some C99 := rfl
@[simp] theorem g139_182 : lookN 182 g139.ctx = some C182 := rfl
set_option maxHeartbeats 4000000 in
set_option maxRecDepth 100000 in
theorem w139 {t h_} {y} (hp : spec_Describes t h_ = some y) : ∃ m, callo g139 0 139 [av .shr t, av .shr h_] mem0 = some (Res.res y, m) := by
  refine start_fn (Try.f139.body.getD .skip) [.tmp 4] rfl rfl Try.func139 (by kernel_rfl) (by kernel_rfl) (by simp [Try.ntmps139]) rfl ?_
  unfold spec_Describes at hp
  obtain ⟨y_1, h_2, hp⟩ := bind_some hp
  have c_3 := C99_eq h_2
  simp at c_3
  obtain ⟨y_4, h_5, hp⟩ := bind_some hp
  have c_6 := C182_eq h_5
  simp at c_6
  cases hp
  simp [Try.f139, Goal, FnEnd, c_3, c_6]
theorem pc139 : PC Try.prog 139 C139 := pc_of (g := g139) (ctxOK_of [(99, C99), (182, C182)] rfl ⟨pc99, pc182, trivial⟩) ⟨Try.f139, Try.func139, by kernel_rfl, by kernel_rfl⟩ fun x y h => w139 h

noncomputable def C75 : List AV → Option AV := specP (X := (List TStructure) × THeap × Unit) fun x => spec_SetDescribes x.1 x.2.1
theorem C75_eq {set h_} {y} (h : spec_SetDescribes set h_ = some y) : C75 [av .shr set, av .shr h_] = some (Res.res y) := specP_eq (X := (List TStructure) × THeap × Unit) (F := fun x => spec_SetDescribes x.1 x.2.1) (x := (set, h_, ())) h
noncomputable def g75 : Cfg := { P := Try.prog, take := [], keep := [((75, 2), { hd := [0, 3, 5], bx := [], ex := [], rt := [4] })], gho := [], ctx := [(139, C139)] }
@[simp] theorem g75_P : g75.P = Try.prog := rfl
@[simp] theorem g75_t : g75.take = [] := rfl
@[simp] theorem g75_g : g75.gho = [] := rfl
@[simp] theorem g75_r : g75.ro = [] := rfl
@[simp] theorem g75_w : g75.away = [] := by rw [g75]
@[simp] theorem g75_139 : lookN 139 g75.ctx = some C139 := rfl
set_option maxHeartbeats 4000000 in
set_option maxRecDepth 100000 in
theorem w75 {set h_} {y} (hp : spec_SetDescribes set h_ = some y) : ∃ m, callo g75 0 75 [av .shr set, av .shr h_] mem0 = some (Res.res y, m) := by
  refine start_fn (Try.f75.body.getD .skip) [.tmp 4] rfl rfl Try.func75 (by kernel_rfl) (by kernel_rfl) (by simp [Try.ntmps75]) rfl ?_
  unfold spec_SetDescribes at hp
  simp [Try.f75]
  obtain ⟨r_21, h_22, hp⟩ := bind_some hp
  obtain ⟨I_3, I_3_⟩ : ∃ I : Int → St → Prop, I = (fun (s_1 : Int) (σ : St) => σ.env 0 = .one (.l .shr set.length (encL set)) ∧ σ.env 3 = .one (.ptr (1, 3) 0) ∧ σ.env 5 = .one (.s (.int .i64 s_1)) ∧ σ.mem (1, 3) = some [(.l .shr h_.vars.length (encL h_.vars)), (.l .shr h_.next.length (encL h_.next))] ∧ NoBox [(1, 3)] σ.mem) := ⟨_, rfl⟩
  obtain ⟨X_4, X_4_⟩ : ∃ X : ((Bool) ⊕ (Unit)) → Out → Prop, X = (fun (r_21 : (Bool) ⊕ (Unit)) (out : Out) => Sum.elim (fun r_21 => ∃ σ : St, out = .ret σ ∧ σ.env 4 = .one (.s (.bool r_21)) ∧ σ.mem (1, 3) = some [(.l .shr h_.vars.length (encL h_.vars)), (.l .shr h_.next.length (encL h_.next))] ∧ NoBox [(1, 3)] σ.mem) (fun r_21 => ∃ σ : St, out = .exit 0 σ ∧ σ.mem (1, 3) = some [(.l .shr h_.vars.length (encL h_.vars)), (.l .shr h_.next.length (encL h_.next))] ∧ NoBox [(1, 3)] σ.mem) r_21) := ⟨_, rfl⟩
  refine loopP ({ hd := [0, 3, 5], bx := [], ex := [], rt := [4] }) I_3 X_4 h_22 (by exact rfl) ?_ ?_ ?_
  · rw [I_3_]
    refine ⟨?_, ?_, ?_, ?_, NoBox.restrict (by intro k hk hb; simp at hk hb; simp [hk, hb])⟩ <;> simp [restrict_env, restrict_mem]
  · intro s_1 σ_5 a_2 hI hp
    rw [I_3_] at hI
    obtain ⟨q_6, q_7, q_8, q_9, hn_10⟩ := hI
    try simp [q_6, q_7, q_8, q_9]
    rcases cond_cases hp with ⟨h_11, hp⟩ | ⟨h_11, hp⟩
    · try simp at h_11
      obtain ⟨e_12, h_13, hp⟩ := bind_some hp
      have b_14 := at_lo h_13
      have b_15 := at_hi h_13
      try simp at b_14
      try simp at b_15
      have c_16 := seg_at' h_13 0 2 (by decide) (ds := [.sl e_12.nodes.length (encL e_12.nodes), .sl e_12.next.length (encL e_12.next)]) rfl
      try simp at c_16
      obtain ⟨y_17, h_18, hp⟩ := bind_some hp
      have c_19 := C139_eq h_18
      simp at c_19
      try simp [q_6, q_7, q_8, q_9, h_11, b_14, b_15, c_16, c_19]
      rcases cond_cases hp with ⟨h_20, hp⟩ | ⟨h_20, hp⟩
      · try simp at h_20
        cases hp
        try simp [q_6, q_7, q_8, q_9, h_11, h_20]
        refine goal_outR ?_
        rw [X_4_]
        refine ⟨_, rfl, ?_, ?_, NoBox.restrict (by intro k hk hb; simp at hk hb; simp [hk, hb, q_6, q_7, q_8, q_9, h_11, h_20, hn_10 k (by simp [hk, hb])])⟩ <;> simp [restrict_env, restrict_mem, q_6, q_7, q_8, q_9, h_11, h_20]
      · try simp at h_20
        cases hp
        try simp [q_6, q_7, q_8, q_9, h_11, h_20]
        refine goal_next ?_
        rw [I_3_]
        refine ⟨?_, ?_, ?_, ?_, NoBox.restrict (by intro k hk hb; simp at hk hb; simp [hk, hb, q_6, q_7, q_8, q_9, h_11, h_20, hn_10 k (by simp [hk, hb])])⟩ <;> simp [restrict_env, restrict_mem, q_6, q_7, q_8, q_9, h_11, h_20]
    · try simp at h_11
      cases hp
      try simp [q_6, q_7, q_8, q_9, h_11]
      refine goal_outX ?_
      rw [X_4_]
      exact ⟨_, rfl, by simp [restrict_mem, q_6, q_7, q_8, q_9, h_11], NoBox.restrict (by intro k hk hb; simp at hk hb; simp [hk, hb, q_6, q_7, q_8, q_9, h_11, hn_10 k (by simp [hk, hb])])⟩
  · intro out hX
    rw [X_4_] at hX
    rcases r_21 with r_21 | r_21
    · simp only [Sum.elim_inl, Sum.elim_inr] at hX hp
      obtain ⟨σ_23, rfl, q_24, q_25, hn_26⟩ := hX
      cases hp
      simp [Goal, FnEnd, q_24, q_25]
    · simp only [Sum.elim_inl, Sum.elim_inr] at hX hp
      obtain ⟨σ_27, rfl, q_28, hn_29⟩ := hX
      cases hp
      simp [Goal, FnEnd, q_28]
theorem pc75 : PC Try.prog 75 C75 := pc_of (g := g75) (ctxOK_of [(139, C139)] rfl ⟨pc139, trivial⟩) ⟨Try.f75, Try.func75, by kernel_rfl, by kernel_rfl⟩ fun x y h => w75 h

noncomputable def C26 : List AV → Option AV := specP (X := Int × (List TStructure) × Int × Unit) fun x => spec_SmallHeapsOf x.1 x.2.1 x.2.2.1
theorem C26_eq {vars set cells} {y} (h : spec_SmallHeapsOf vars set cells = some y) : C26 [av .shr vars, av .shr set, av .shr cells] = some (Res.res y) := specP_eq (X := Int × (List TStructure) × Int × Unit) (F := fun x => spec_SmallHeapsOf x.1 x.2.1 x.2.2.1) (x := (vars, set, cells, ())) h
noncomputable def g26 : Cfg := { P := Try.prog, take := [(26, 26), (26, 30), (26, 33)], keep := [((26, 4), { hd := [1, 7, 8, 9], bx := [], ex := [7], rt := [6] })], gho := [((26, 2000002), [.thaw (.sl 8 0) 8 2]), ((26, 5), [.die (.ix 8 9 2 0) 2])], ctx := [(74, C74), (75, C75)] }
@[simp] theorem g26_P : g26.P = Try.prog := rfl
@[simp] theorem g26_t : g26.take = [(26, 26), (26, 30), (26, 33)] := rfl
@[simp] theorem g26_g : g26.gho = [((26, 2000002), [.thaw (.sl 8 0) 8 2]), ((26, 5), [.die (.ix 8 9 2 0) 2])] := rfl
@[simp] theorem g26_r : g26.ro = [] := rfl
@[simp] theorem g26_w : g26.away = [] := by rw [g26]
@[simp] theorem g26_74 : lookN 74 g26.ctx = some C74 := rfl
@[simp] theorem g26_75 : lookN 75 g26.ctx = some C75 := rfl
set_option maxHeartbeats 4000000 in
set_option maxRecDepth 100000 in
theorem w26 {vars set cells} {y} (hp : spec_SmallHeapsOf vars set cells = some y) : ∃ m, callo g26 0 26 [av .shr vars, av .shr set, av .shr cells] mem0 = some (Res.res y, m) := by
  refine start_fn (Try.f26.body.getD .skip) [.tmp 6] rfl rfl Try.func26 (by kernel_rfl) (by kernel_rfl) (by simp [Try.ntmps26]) rfl ?_
  unfold spec_SmallHeapsOf at hp
  obtain ⟨y_1, h_2, hp⟩ := bind_some hp
  have c_3 := C74_eq h_2
  simp at c_3
  simp [Try.f26, c_3]
  try simp
  obtain ⟨r_48, h_49, hp⟩ := bind_some hp
  obtain ⟨I_6, I_6_⟩ : ∃ I : (List THeap) × Int × Int → St → Prop, I = (fun (s_4 : (List THeap) × Int × Int) (σ : St) => σ.env 1 = .one (.l .shr set.length (encL set)) ∧ σ.env 7 = .one (.l .own s_4.1.length (encL s_4.1)) ∧ σ.env 8 = .one (.bs (1, 8) y_1.length 2) ∧ σ.env 9 = .one (.s (.int .i64 s_4.2.1)) ∧ σ.mem (1, 8) = some (deadC y_1 s_4.2.2) ∧ NoBox [(1, 8)] σ.mem) := ⟨_, rfl⟩
  obtain ⟨X_7, X_7_⟩ : ∃ X : ((List THeap) × Int) → Out → Prop, X = (fun (r_48 : (List THeap) × Int) (out : Out) => ∃ σ : St, out = .exit 0 σ ∧ σ.env 7 = .one (.l .own r_48.1.length (encL r_48.1)) ∧ σ.mem (1, 8) = some (deadC y_1 r_48.2) ∧ NoBox [(1, 8)] σ.mem) := ⟨_, rfl⟩
  refine loopP ({ hd := [1, 7, 8, 9], bx := [], ex := [7], rt := [6] }) I_6 X_7 h_49 (by exact rfl) ?_ ?_ ?_
  · rw [I_6_]
    refine ⟨?_, ?_, ?_, ?_, ?_, NoBox.restrict (by intro k hk hb; simp at hk hb; simp [hk, hb])⟩ <;> simp [restrict_env, restrict_mem]
  · intro s_4 σ_8 a_5 hI hp
    rw [I_6_] at hI
    obtain ⟨q_9, q_10, q_11, q_12, q_13, hn_14⟩ := hI
    try simp [q_9, q_10, q_11, q_12, q_13]
    rcases cond_cases hp with ⟨h_15, hp⟩ | ⟨h_15, hp⟩
    · try simp at h_15
      obtain ⟨e_16, h_17, hp⟩ := bind_some hp
      have b_18 := at_lo h_17
      have b_19 := at_hi h_17
      try simp at b_18
      try simp at b_19
      obtain ⟨_, h_20, hp⟩ := bind_some hp
      have h_21 := takeI_eq h_20
      have c_22 := seg_dead h_17 h_21 0 2 rfl rfl (cs := [(.l .own e_16.vars.length (encL e_16.vars)), (.l .own e_16.next.length (encL e_16.next))]) rfl
      try simp at c_22
      obtain ⟨y_24, h_25, hp⟩ := bind_some hp
      have c_26 := C75_eq h_25
      simp at c_26
      try simp [q_9, q_10, q_11, q_12, q_13, h_15, b_18, b_19, c_22, c_26]
      rcases cond_cases hp with ⟨h_27, hp⟩ | ⟨h_27, hp⟩
      · try simp at h_27
        obtain ⟨e_28, h_29, hp⟩ := bind_some hp
        cases Option.some.inj (h_17.symm.trans h_29)
        have b_30 := at_lo h_17
        have b_31 := at_hi h_17
        try simp at b_30
        try simp at b_31
        obtain ⟨_, h_32, hp⟩ := bind_some hp
        have h_33 := takeI_eq h_32
        have c_34 := seg_dead h_17 h_33 0 2 rfl rfl (cs := [(.l .own e_16.vars.length (encL e_16.vars)), (.l .own e_16.next.length (encL e_16.next))]) rfl
        try simp at c_34
        have c_35 := splice_dead h_17 h_33 0 rfl (cs := [C.dead, C.dead]) rfl
        try simp at c_35
        obtain ⟨_, h_36, hp⟩ := bind_some hp
        have b_37 := room_ok h_36
        try simp at b_37
        try simp [q_9, q_10, q_11, q_12, q_13, h_15, h_27, b_30, b_31, c_34, c_35, b_37]
        have b_40 := at_lo h_17
        have b_41 := at_hi h_17
        try simp at b_40
        try simp at b_41
        have c_38 := splice_dead2 h_17 h_33 0 rfl (cs := [C.dead, C.dead]) rfl
        try simp at c_38
        have l_39 := dead_room2 h_17 h_33
        try simp at l_39
        cases hp
        try simp [q_9, q_10, q_11, q_12, q_13, h_15, h_27, c_38, l_39, b_40, b_41]
        refine goal_next ?_
        rw [I_6_]
        refine ⟨?_, ?_, ?_, ?_, ?_, NoBox.restrict (by intro k hk hb; simp at hk hb; simp [hk, hb, q_9, q_10, q_11, q_12, q_13, h_15, h_27, c_38, l_39, b_40, b_41, hn_14 k (by simp [hk, hb])])⟩ <;> simp [restrict_env, restrict_mem, q_9, q_10, q_11, q_12, q_13, h_15, h_27, c_38, l_39, b_40, b_41]
      · try simp at h_27
        try simp [q_9, q_10, q_11, q_12, q_13, h_15, h_27]
        obtain ⟨_, h_46, hp⟩ := bind_some hp
        have h_47 := takeI_eq h_46
        have b_44 := at_lo h_17
        have b_45 := at_hi h_17
        try simp at b_44
        try simp at b_45
        have c_42 := splice_dead h_17 h_47 0 rfl (cs := [C.dead, C.dead]) rfl
        try simp at c_42
        have l_43 := dead_room h_17 h_47
        try simp at l_43
        cases hp
        try simp [q_9, q_10, q_11, q_12, q_13, h_15, h_27, c_42, l_43, b_44, b_45]
        refine goal_next ?_
        rw [I_6_]
        refine ⟨?_, ?_, ?_, ?_, ?_, NoBox.restrict (by intro k hk hb; simp at hk hb; simp [hk, hb, q_9, q_10, q_11, q_12, q_13, h_15, h_27, c_42, l_43, b_44, b_45, hn_14 k (by simp [hk, hb])])⟩ <;> simp [restrict_env, restrict_mem, q_9, q_10, q_11, q_12, q_13, h_15, h_27, c_42, l_43, b_44, b_45]
    · try simp at h_15
      cases hp
      try simp [q_9, q_10, q_11, q_12, q_13, h_15]
      refine goal_outX ?_
      rw [X_7_]
      refine ⟨_, rfl, ?_, ?_, NoBox.restrict (by intro k hk hb; simp at hk hb; simp [hk, hb, q_9, q_10, q_11, q_12, q_13, h_15, hn_14 k (by simp [hk, hb])])⟩ <;> simp [restrict_env, restrict_mem, q_9, q_10, q_11, q_12, q_13, h_15]
  · intro out hX
    rw [X_7_] at hX
    obtain ⟨σ_50, rfl, q_51, q_52, hn_53⟩ := hX
    cases hp
    simp [Goal, FnEnd, q_51, q_52]
theorem pc26 : PC Try.prog 26 C26 := pc_of (g := g26) (ctxOK_of [(74, C74), (75, C75)] rfl ⟨pc74, pc75, trivial⟩) ⟨Try.f26, Try.func26, by kernel_rfl, by kernel_rfl⟩ fun x y h => w26 h

noncomputable def C12 : List AV → Option AV := specP (X := Int × TStructure × Unit) fun x => spec_LeastHeap x.1 x.2.1
theorem C12_eq {vars s} {y} (h : spec_LeastHeap vars s = some y) : C12 [av .shr vars, av .shr s] = some (Res.res y) := specP_eq (X := Int × TStructure × Unit) (F := fun x => spec_LeastHeap x.1 x.2.1) (x := (vars, s, ())) h
noncomputable def g12 : Cfg := { P := Try.prog, take := [(12, 22)], keep := [((12, 2), { hd := [0, 3, 4, 6], bx := [7], ex := [4], rt := [4, 5] })], gho := [((12, 2000004), [.thaw (.sl 7 0) 7 2])], ctx := [(26, C26)] }
@[simp] theorem g12_P : g12.P = Try.prog := rfl
@[simp] theorem g12_t : g12.take = [(12, 22)] := rfl
@[simp] theorem g12_g : g12.gho = [((12, 2000004), [.thaw (.sl 7 0) 7 2])] := rfl
@[simp] theorem g12_r : g12.ro = [] := rfl
@[simp] theorem g12_w : g12.away = [] := by rw [g12]
@[simp] theorem g12_26 : lookN 26 g12.ctx = some C26 := rfl
set_option maxHeartbeats 4000000 in
set_option maxRecDepth 100000 in
theorem w12 {vars s} {y} (hp : spec_LeastHeap vars s = some y) : ∃ m, callo g12 0 12 [av .shr vars, av .shr s] mem0 = some (Res.res y, m) := by
  refine start_fn (Try.f12.body.getD .skip) [.cell 4 28, .tmp 5] rfl rfl Try.func12 (by kernel_rfl) (by kernel_rfl) (by simp [Try.ntmps12]) rfl ?_
  unfold spec_LeastHeap at hp
  simp [Try.f12]
  obtain ⟨r_27, h_28, hp⟩ := bind_some hp
  obtain ⟨I_3, I_3_⟩ : ∃ I : Int → St → Prop, I = (fun (s_1 : Int) (σ : St) => σ.env 0 = .one (.s (.int .i64 vars)) ∧ σ.env 3 = .one (.ptr (1, 3) 0) ∧ σ.env 4 = .one (.ptr (1, 4) 0) ∧ σ.env 6 = .one (.s (.int .i64 s_1)) ∧ σ.mem (1, 3) = some [(.l .shr s.nodes.length (encL s.nodes)), (.l .shr s.next.length (encL s.next))] ∧ σ.mem (1, 4) = some [(.l .own 0 []), (.l .own 0 [])] ∧ NoBox [(1, 3), (1, 4)] σ.mem) := ⟨_, rfl⟩
  obtain ⟨X_4, X_4_⟩ : ∃ X : ((Bool × (List Int) × (List Int)) ⊕ (Unit)) → Out → Prop, X = (fun (r_27 : (Bool × (List Int) × (List Int)) ⊕ (Unit)) (out : Out) => Sum.elim (fun r_27 => ∃ σ : St, out = .ret σ ∧ σ.env 4 = .one (.ptr (1, 4) 0) ∧ σ.env 5 = .one (.s (.bool r_27.1)) ∧ σ.mem (1, 3) = some [(.l .shr s.nodes.length (encL s.nodes)), (.l .shr s.next.length (encL s.next))] ∧ σ.mem (1, 4) = some [(.l .own r_27.2.1.length (encL r_27.2.1)), (.l .own r_27.2.2.length (encL r_27.2.2))] ∧ NoBox [(1, 3), (1, 4)] σ.mem) (fun r_27 => ∃ σ : St, out = .exit 0 σ ∧ σ.env 4 = .one (.ptr (1, 4) 0) ∧ σ.mem (1, 3) = some [(.l .shr s.nodes.length (encL s.nodes)), (.l .shr s.next.length (encL s.next))] ∧ σ.mem (1, 4) = some [(.l .own 0 []), (.l .own 0 [])] ∧ NoBox [(1, 3), (1, 4)] σ.mem) r_27) := ⟨_, rfl⟩
  refine loopP ({ hd := [0, 3, 4, 6], bx := [7], ex := [4], rt := [4, 5] }) I_3 X_4 h_28 (by exact rfl) ?_ ?_ ?_
  · rw [I_3_]
    refine ⟨?_, ?_, ?_, ?_, ?_, ?_, NoBox.restrict (by intro k hk hb; simp at hk hb; simp [hk, hb])⟩ <;> simp [restrict_env, restrict_mem]
  · intro s_1 σ_5 a_2 hI hp
    rw [I_3_] at hI
    obtain ⟨q_6, q_7, q_8, q_9, q_10, q_11, hn_12⟩ := hI
    try simp [q_6, q_7, q_8, q_9, q_10, q_11]
    rcases cond_cases hp with ⟨h_13, hp⟩ | ⟨h_13, hp⟩
    · try simp at h_13
      obtain ⟨y_14, h_15, hp⟩ := bind_some hp
      have c_16 := C26_eq h_15
      simp at c_16
      try simp [q_6, q_7, q_8, q_9, q_10, q_11, h_13, c_16]
      have n_17 := hn_12 (1, 7) (by simp)
      try simp [q_6, q_7, q_8, q_9, q_10, q_11, h_13, n_17]
      rcases cond_cases hp with ⟨h_18, hp⟩ | ⟨h_18, hp⟩
      · try simp at h_18
        obtain ⟨e_19, h_20, hp⟩ := bind_some hp
        have b_21 := at_lo h_20
        have b_22 := at_hi h_20
        try simp at b_21
        try simp at b_22
        obtain ⟨_, h_23, hp⟩ := bind_some hp
        have h_24 := takeI_eq h_23
        have c_25 := seg_dead h_20 h_24 0 2 rfl rfl (cs := [(.l .own e_19.vars.length (encL e_19.vars)), (.l .own e_19.next.length (encL e_19.next))]) rfl
        try simp at c_25
        have c_26 := splice_dead h_20 h_24 0 rfl (cs := [C.dead, C.dead]) rfl
        try simp at c_26
        cases hp
        try simp [q_6, q_7, q_8, q_9, q_10, q_11, h_13, h_18, b_21, b_22, c_25, c_26]
        refine goal_outR ?_
        rw [X_4_]
        refine ⟨_, rfl, ?_, ?_, ?_, ?_, NoBox.restrict (by intro k hk hb; simp at hk hb; simp [hk, hb, q_6, q_7, q_8, q_9, q_10, q_11, h_13, h_18, b_21, b_22, c_25, c_26, hn_12 k (by simp [hk, hb])])⟩ <;> simp [restrict_env, restrict_mem, q_6, q_7, q_8, q_9, q_10, q_11, h_13, h_18, b_21, b_22, c_25, c_26]
      · try simp at h_18
        cases hp
        try simp [q_6, q_7, q_8, q_9, q_10, q_11, h_13, h_18]
        refine goal_next ?_
        rw [I_3_]
        refine ⟨?_, ?_, ?_, ?_, ?_, ?_, NoBox.restrict (by intro k hk hb; simp at hk hb; simp [hk, hb, q_6, q_7, q_8, q_9, q_10, q_11, h_13, h_18, hn_12 k (by simp [hk, hb])])⟩ <;> simp [restrict_env, restrict_mem, q_6, q_7, q_8, q_9, q_10, q_11, h_13, h_18]
    · try simp at h_13
      cases hp
      try simp [q_6, q_7, q_8, q_9, q_10, q_11, h_13]
      refine goal_outX ?_
      rw [X_4_]
      refine ⟨_, rfl, ?_, ?_, ?_, NoBox.restrict (by intro k hk hb; simp at hk hb; simp [hk, hb, q_6, q_7, q_8, q_9, q_10, q_11, h_13, hn_12 k (by simp [hk, hb])])⟩ <;> simp [restrict_env, restrict_mem, q_6, q_7, q_8, q_9, q_10, q_11, h_13]
  · intro out hX
    rw [X_4_] at hX
    rcases r_27 with r_27 | r_27
    · simp only [Sum.elim_inl, Sum.elim_inr] at hX hp
      obtain ⟨σ_29, rfl, q_30, q_31, q_32, q_33, hn_34⟩ := hX
      cases hp
      simp [Goal, FnEnd, retR, rsrc, RSrc.val, nodupR, nodup, tupPart, q_30, q_31, q_32, q_33]
    · simp only [Sum.elim_inl, Sum.elim_inr] at hX hp
      obtain ⟨σ_35, rfl, q_36, q_37, q_38, hn_39⟩ := hX
      cases hp
      simp [Goal, FnEnd, retR, rsrc, RSrc.val, nodupR, nodup, tupPart, q_36, q_37, q_38]
theorem pc12 : PC Try.prog 12 C12 := pc_of (g := g12) (ctxOK_of [(26, C26)] rfl ⟨pc26, trivial⟩) ⟨Try.f12, Try.func12, by kernel_rfl, by kernel_rfl⟩ fun x y h => w12 h

noncomputable def C122 : List AV → Option AV := specP (X := Int × Int × Int × Unit) fun x => impl_within x.1 x.2.1 x.2.2.1
theorem C122_eq {n_ low high} {y} (h : impl_within n_ low high = some y) : C122 [av .shr n_, av .shr low, av .shr high] = some (Res.res y) := specP_eq (X := Int × Int × Int × Unit) (F := fun x => impl_within x.1 x.2.1 x.2.2.1) (x := (n_, low, high, ())) h
noncomputable def g122 : Cfg := { P := Try.prog, take := [], keep := [], gho := [], ctx := [] }
@[simp] theorem g122_P : g122.P = Try.prog := rfl
@[simp] theorem g122_t : g122.take = [] := rfl
@[simp] theorem g122_g : g122.gho = [] := rfl
@[simp] theorem g122_r : g122.ro = [] := rfl
@[simp] theorem g122_w : g122.away = [] := by rw [g122]
set_option maxHeartbeats 4000000 in
set_option maxRecDepth 100000 in
theorem w122 {n_ low high} {y} (hp : impl_within n_ low high = some y) : ∃ m, callo g122 0 122 [av .shr n_, av .shr low, av .shr high] mem0 = some (Res.res y, m) := by
  refine start_fn (Try.f122.body.getD .skip) [.tmp 6] rfl rfl Try.func122 (by kernel_rfl) (by kernel_rfl) (by simp [Try.ntmps122]) rfl ?_
  unfold impl_within at hp
  simp [Try.f122]
  rcases cond_cases hp with ⟨h_1, hp⟩ | ⟨h_1, hp⟩
  · try simp at h_1
    cases hp
    simp [Goal, FnEnd, h_1]
  · try simp at h_1
    cases hp
    simp [Goal, FnEnd, h_1]
theorem pc122 : PC Try.prog 122 C122 := pc_of (g := g122) (fun f F h => by cases h) ⟨Try.f122, Try.func122, by kernel_rfl, by kernel_rfl⟩ fun x y h => w122 h

noncomputable def C229 : List AV → Option AV := specP (X := THeap × Int × Unit) fun x => impl_Heap_isCell x.1 x.2.1
theorem C229_eq {h_ n_} {y} (h : impl_Heap_isCell h_ n_ = some y) : C229 [av .shr h_, av .shr n_] = some (Res.res y) := specP_eq (X := THeap × Int × Unit) (F := fun x => impl_Heap_isCell x.1 x.2.1) (x := (h_, n_, ())) h
noncomputable def g229 : Cfg := { P := Try.prog, take := [], keep := [], gho := [], ctx := [(122, C122)] }
@[simp] theorem g229_P : g229.P = Try.prog := rfl
@[simp] theorem g229_t : g229.take = [] := rfl
@[simp] theorem g229_g : g229.gho = [] := rfl
@[simp] theorem g229_r : g229.ro = [] := rfl
@[simp] theorem g229_w : g229.away = [] := by rw [g229]
@[simp] theorem g229_122 : lookN 122 g229.ctx = some C122 := rfl
set_option maxHeartbeats 4000000 in
set_option maxRecDepth 100000 in
theorem w229 {h_ n_} {y} (hp : impl_Heap_isCell h_ n_ = some y) : ∃ m, callo g229 0 229 [av .shr h_, av .shr n_] mem0 = some (Res.res y, m) := by
  refine start_fn (Try.f229.body.getD .skip) [.tmp 4] rfl rfl Try.func229 (by kernel_rfl) (by kernel_rfl) (by simp [Try.ntmps229]) rfl ?_
  unfold impl_Heap_isCell at hp
  obtain ⟨y_1, h_2, hp⟩ := bind_some hp
  have c_3 := C122_eq h_2
  simp at c_3
  cases hp
  simp [Try.f229, Goal, FnEnd, c_3]
theorem pc229 : PC Try.prog 229 C229 := pc_of (g := g229) (ctxOK_of [(122, C122)] rfl ⟨pc122, trivial⟩) ⟨Try.f229, Try.func229, by kernel_rfl, by kernel_rfl⟩ fun x y h => w229 h

abbrev G231 (g : Cfg) : Prop := Has Try.prog g 231 Try.f231 [] [(2, { hd := [0, 1, 7, 8], bx := [], ex := [], rt := [4] })] [] []
set_option maxHeartbeats 4000000 in
set_option maxRecDepth 100000 in
theorem wI231 {g : Cfg} (G : G231 g) {d : Nat} {mem : Mem} (hT : Tight d mem)  {s : (List Int)} {f_ : (Int → Option (Bool))} {m_0 : Md} (hm_0 : LentM m_0) {fk_f_ : Nat} {caps_f_ : List (Key × Nat)} (hl_f_ : ∀ c ∈ caps_f_, c.1.1 ≤ d) (hc_f_ : Clo g d mem fk_f_ caps_f_ fun x : Int × Unit => f_ x.1) {y} (hp : slices_IndexFunc_int s f_ = some y) : callo g d 231 [av m_0 s, .one (.fn fk_f_ caps_f_)] mem = some (Res.res y, mem) := by
  have gP := G.P; have gt := G.tk; have gr := G.ro; have gg := G.gh
  have k_2 := G.kp (2, { hd := [0, 1, 7, 8], bx := [], ex := [], rt := [4] }) (by simp)
  have hT2 : memKill (fun k => decide (d < k.1)) mem = mem := hT
  refine start_in (Try.f231.body.getD .skip) [.tmp 4] G Try.func231 (by kernel_rfl) (by simp [Try.ntmps231]) rfl ?_
  unfold slices_IndexFunc_int at hp
  simp [Try.f231, gP, gt, gr, gg, hm_0.copy, hm_0.elem]
  obtain ⟨r_20, h_21, hp⟩ := bind_some hp
  obtain ⟨I_3, I_3_⟩ : ∃ I : Int → St → Prop, I = (fun (s_1 : Int) (σ : St) => σ.env 0 = .one (.l m_0 s.length (encL s)) ∧ σ.env 1 = .one (.fn fk_f_ caps_f_) ∧ σ.env 7 = .one (.s (.int .i64 (s.length : Int))) ∧ σ.env 8 = .one (.s (.int .i64 s_1)) ∧ σ.mem = mem) := ⟨_, rfl⟩
  obtain ⟨X_4, X_4_⟩ : ∃ X : ((Int) ⊕ (Unit)) → Out → Prop, X = (fun (r_20 : (Int) ⊕ (Unit)) (out : Out) => Sum.elim (fun r_20 => ∃ σ : St, out = .ret σ ∧ σ.env 4 = .one (.s (.int .i64 r_20)) ∧ σ.mem = mem) (fun r_20 => ∃ σ : St, out = .exit 0 σ ∧ σ.mem = mem) r_20) := ⟨_, rfl⟩
  refine loopP ({ hd := [0, 1, 7, 8], bx := [], ex := [], rt := [4] }) I_3 X_4 h_21 (by exact k_2) ?_ ?_ ?_
  · rw [I_3_]
    refine ⟨?_, by simp [restrict_env, gP, gt, gr, gg, hm_0.copy, hm_0.elem] <;> first | (intro x x1 x2 hx; have h0 := hl_f_ _ hx; simp at h0; omega) | (intro x hx; have h0 := hl_f_ _ hx; simp at h0; omega), ?_, ?_, ?_⟩ <;> simp [restrict_env, restrict_mem, gP, gt, gr, gg, hm_0.copy, hm_0.elem]
  · intro s_1 σ_5 a_2 hI hp
    rw [I_3_] at hI
    obtain ⟨q_6, q_7, q_8, q_9, q_10⟩ := hI
    try simp [gP, gt, gr, gg, hm_0.copy, hm_0.elem, q_6, q_7, q_8, q_9, q_10]
    rcases cond_cases hp with ⟨h_11, hp⟩ | ⟨h_11, hp⟩
    · try simp at h_11
      obtain ⟨e_12, h_13, hp⟩ := bind_some hp
      have b_14 := at_lo h_13
      have b_15 := at_hi h_13
      try simp at b_14
      try simp at b_15
      have c_16 := seg_at' h_13 0 1 (by decide) (ds := [.sc (.int .i64 e_12)]) rfl
      try simp at c_16
      obtain ⟨y_17, h_18, hp⟩ := bind_some hp
      try simp [gP, gt, gr, gg, hm_0.copy, hm_0.elem, q_6, q_7, q_8, q_9, q_10, h_11, b_14, b_15, c_16]
      refine goal_call ([av .shr e_12] ++ capsAV caps_f_) (Res.res y_17) (by simp [capsAV, gP, gt, gr, gg, hm_0.copy, hm_0.elem, q_6, q_7, q_8, q_9, q_10, h_11]) (hc_f_ _ _ _ (e_12, ()) _ (Nat.le_succ d) (fun k hk => by first | rfl | rw [q_10]) (by repeat (first | exact tight_mem0 _ | exact hT.up | exact hT | (simp only [q_6, q_7, q_8, q_9, q_10]; done) | refine Tight.upd ?_ (by simp) (by simp))) ⟨_, _, (.inl rfl), rfl, rfl⟩ h_18) ?_
      try simp [gP, gt, gr, gg, hm_0.copy, hm_0.elem, q_6, q_7, q_8, q_9, q_10, h_11]
      rcases cond_cases hp with ⟨h_19, hp⟩ | ⟨h_19, hp⟩
      · try simp at h_19
        cases hp
        try simp [gP, gt, gr, gg, hm_0.copy, hm_0.elem, q_6, q_7, q_8, q_9, q_10, h_11, h_19]
        refine goal_outR ?_
        rw [X_4_]
        refine ⟨_, rfl, ?_, ?_⟩ <;> simp [restrict_env, restrict_mem, gP, gt, gr, gg, hm_0.copy, hm_0.elem, q_6, q_7, q_8, q_9, q_10, h_11, h_19]
      · try simp at h_19
        cases hp
        try simp [gP, gt, gr, gg, hm_0.copy, hm_0.elem, q_6, q_7, q_8, q_9, q_10, h_11, h_19]
        refine goal_next ?_
        rw [I_3_]
        refine ⟨?_, by simp [restrict_env, gP, gt, gr, gg, hm_0.copy, hm_0.elem, q_6, q_7, q_8, q_9, q_10, h_11, h_19] <;> first | (intro x x1 x2 hx; have h0 := hl_f_ _ hx; simp at h0; omega) | (intro x hx; have h0 := hl_f_ _ hx; simp at h0; omega), ?_, ?_, ?_⟩ <;> simp [restrict_env, restrict_mem, gP, gt, gr, gg, hm_0.copy, hm_0.elem, q_6, q_7, q_8, q_9, q_10, h_11, h_19]
    · try simp at h_11
      cases hp
      try simp [gP, gt, gr, gg, hm_0.copy, hm_0.elem, q_6, q_7, q_8, q_9, q_10, h_11]
      refine goal_outX ?_
      rw [X_4_]
      exact ⟨_, rfl, by simp [restrict_mem, gP, gt, gr, gg, hm_0.copy, hm_0.elem, q_6, q_7, q_8, q_9, q_10, h_11]⟩
  · intro out hX
    rw [X_4_] at hX
    rcases r_20 with r_20 | r_20
    · simp only [Sum.elim_inl, Sum.elim_inr] at hX hp
      obtain ⟨σ_22, rfl, q_23, q_24⟩ := hX
      cases hp
      simp [Goal, FnEndI, memKill_hi, gP, gt, gr, gg, hm_0.copy, hm_0.elem, q_23, q_24, hT2]
    · simp only [Sum.elim_inl, Sum.elim_inr] at hX hp
      obtain ⟨σ_25, rfl, q_26⟩ := hX
      cases hp
      simp [Goal, FnEndI, memKill_hi, gP, gt, gr, gg, hm_0.copy, hm_0.elem, q_26, hT2]

abbrev G173 (g : Cfg) : Prop := Has Try.prog g 173 Try.f173 [] [] [] []
set_option maxHeartbeats 4000000 in
set_option maxRecDepth 100000 in
theorem wI173 {g : Cfg} (G : G173 g) (G_231 : G231 g) {d : Nat} {mem : Mem} (hT : Tight d mem)  {s : (List Int)} {f_ : (Int → Option (Bool))} {m_0 : Md} (hm_0 : LentM m_0) {fk_f_ : Nat} {caps_f_ : List (Key × Nat)} (hl_f_ : ∀ c ∈ caps_f_, c.1.1 ≤ d) (hc_f_ : Clo g d mem fk_f_ caps_f_ fun x : Int × Unit => f_ x.1) {y} (hp : slices_ContainsFunc_int s f_ = some y) : callo g d 173 [av m_0 s, .one (.fn fk_f_ caps_f_)] mem = some (Res.res y, mem) := by
  have gP := G.P; have gt := G.tk; have gr := G.ro; have gg := G.gh
  have i_231 := G_231.no
  have hT2 : memKill (fun k => decide (d < k.1)) mem = mem := hT
  refine start_in (Try.f173.body.getD .skip) [.tmp 4] G Try.func173 (by kernel_rfl) (by simp [Try.ntmps173]) rfl ?_
  unfold slices_ContainsFunc_int at hp
  obtain ⟨y_1, h_2, hp⟩ := bind_some hp
  simp [Try.f173, gP, gt, gr, gg, i_231, hm_0.copy, hm_0.elem]
  refine goal_call [av m_0 s, .one (.fn fk_f_ caps_f_)] (Res.res y_1) (by simp [gP, gt, gr, gg, i_231, hm_0.copy, hm_0.elem]) (wI231 G_231 (by repeat (first | exact tight_mem0 _ | exact hT.up | exact hT | (simp only [true_and]; done) | refine Tight.upd ?_ (by simp) (by simp))) hm_0 (fun c hc => Nat.le_succ_of_le (hl_f_ c hc)) (hc_f_.mono (Nat.le_succ d) (fun k hk => rfl)) h_2) ?_
  cases hp
  simp [Goal, FnEndI, memKill_hi, gP, gt, gr, gg, i_231, hm_0.copy, hm_0.elem, hT2]

abbrev G228 (g : Cfg) : Prop := Has Try.prog g 228 Try.f228 [] [] [(229, C229)] []
set_option maxHeartbeats 4000000 in
set_option maxRecDepth 100000 in
theorem wI228 {g : Cfg} (G : G228 g) {d : Nat} {mem : Mem} (hT : Tight d mem) {K_1 : Key} {n_ : Int} {c0 : THeap} {mk_1 : Md} (hk_1 : K_1.1 ≤ d) (hb_1 : mem K_1 = some [(.l mk_1 c0.vars.length (encL c0.vars)), (.l mk_1 c0.next.length (encL c0.next))]) {y} (hp : impl_Heap_areCells_1 n_ c0 = some y) : callo g d 228 [av .shr n_, .one (.ptr K_1 0)] mem = some (Res.res y, mem) := by
  have gP := G.P; have gt := G.tk; have gr := G.ro; have gg := G.gh
  have c_229 := G.cs (229, C229) (by simp)
  have hT2 : memKill (fun k => decide (d < k.1)) mem = mem := hT
  have nk_1 : ∀ t, (K_1 = (d + 1, t)) = False := fun t => by simp; intro h; rw [h] at hk_1; simp at hk_1; omega
  refine start_in (Try.f228.body.getD .skip) [.tmp 3] G Try.func228 (by kernel_rfl) (by simp [Try.ntmps228]) rfl ?_
  unfold impl_Heap_areCells_1 at hp
  simp [Try.f228, gP, gt, gr, gg, hb_1, nk_1]
  rcases cond_cases hp with ⟨h_1, hp⟩ | ⟨h_1, hp⟩
  · try simp at h_1
    obtain ⟨y_2, h_3, hp⟩ := bind_some hp
    have c_4 := C229_eq h_3
    simp at c_4
    cases hp
    simp [Goal, FnEndI, memKill_hi, gP, gt, gr, gg, c_229, hb_1, nk_1, h_1, c_4, hT2]
  · try simp at h_1
    cases hp
    simp [Goal, FnEndI, memKill_hi, gP, gt, gr, gg, c_229, hb_1, nk_1, h_1, hT2]

noncomputable def C166 : List AV → Option AV := specP (X := THeap × Unit) fun x => impl_Heap_areCells x.1
theorem C166_eq {h_} {y} (h : impl_Heap_areCells h_ = some y) : C166 [av .shr h_] = some (Res.res y) := specP_eq (X := THeap × Unit) (F := fun x => impl_Heap_areCells x.1) (x := (h_, ())) h
noncomputable def g166 : Cfg := { P := Try.prog, take := [], keep := [((231, 2), { hd := [0, 1, 7, 8], bx := [], ex := [], rt := [4] })], gho := [], ctx := [(227, C227), (229, C229)] }
@[simp] theorem g166_P : g166.P = Try.prog := rfl
@[simp] theorem g166_t : g166.take = [] := rfl
@[simp] theorem g166_g : g166.gho = [] := rfl
@[simp] theorem g166_r : g166.ro = [] := rfl
@[simp] theorem g166_w : g166.away = [] := by rw [g166]
@[simp] theorem g166_227 : lookN 227 g166.ctx = some C227 := rfl
@[simp] theorem g166_229 : lookN 229 g166.ctx = some C229 := rfl
@[simp] theorem g166_173 : lookN 173 g166.ctx = none := rfl
@[simp] theorem g166_231 : lookN 231 g166.ctx = none := rfl
@[simp] theorem g166_228 : lookN 228 g166.ctx = none := rfl
set_option maxHeartbeats 4000000 in
set_option maxRecDepth 100000 in
theorem w166 {h_} {y} (hp : impl_Heap_areCells h_ = some y) : ∃ m, callo g166 0 166 [av .shr h_] mem0 = some (Res.res y, m) := by
  have G_173 : G173 g166 := ⟨rfl, by kernel_rfl, rfl, fun t => by simp, noAway (fun t => by simp) (by simp), fun i => by simp [lookK], by simp [g166, lookK], by simp⟩
  have G_231 : G231 g166 := ⟨rfl, by kernel_rfl, rfl, fun t => by simp, noAway (fun t => by simp) (by simp), fun i => by simp [lookK], by simp [g166, lookK], by simp⟩
  have G_228 : G228 g166 := ⟨rfl, by kernel_rfl, rfl, fun t => by simp, noAway (fun t => by simp) (by simp), fun i => by simp [lookK], by simp [g166, lookK], by simp⟩
  refine start_fn (Try.f166.body.getD .skip) [.tmp 2] rfl rfl Try.func166 (by kernel_rfl) (by kernel_rfl) (by simp [Try.ntmps166]) rfl ?_
  unfold impl_Heap_areCells at hp
  obtain ⟨y_1, h_2, hp⟩ := bind_some hp
  have c_3 := C227_eq h_2
  simp at c_3
  obtain ⟨y_4, h_5, hp⟩ := bind_some hp
  simp [Try.f166, c_3]
  refine goal_call [av .bor y_1, .one (.fn 228 [((1, 1), 0)])] (Res.res y_4) (by simp) (wI173 G_173 G_231 (by repeat (first | exact tight_mem0 _ | exact hT.up | exact hT | (simp only [true_and]; done) | refine Tight.upd ?_ (by simp) (by simp))) (.inr rfl) (by simp) (clo1 (p := fun x0 => impl_Heap_areCells_1 x0 h_) fun d2 mem2 m0 x0 r2 hd2 ha2 hT2 hm0 hr2 => wI228 (mk_1 := .shr) G_228 hT2 (show 1 ≤ d2 from hd2) ((ha2 _ (Nat.le_refl _)).trans (by simp [c_3])) hr2) h_5) ?_
  cases hp
  simp [Goal, FnEnd]
theorem pc166 : PC Try.prog 166 C166 := pc_of (g := g166) (ctxOK_of [(227, C227), (229, C229)] rfl ⟨pc227, pc229, trivial⟩) ⟨Try.f166, Try.func166, by kernel_rfl, by kernel_rfl⟩ fun x y h => w166 h

noncomputable def C168 : List AV → Option AV := specP (X := (List Int) × Int × Unit) fun x => impl_Positions x.1 x.2.1
theorem C168_eq {list n_} {y} (h : impl_Positions list n_ = some y) : C168 [av .shr list, av .shr n_] = some (Res.res y) := specP_eq (X := (List Int) × Int × Unit) (F := fun x => impl_Positions x.1 x.2.1) (x := (list, n_, ())) h
noncomputable def g168 : Cfg := { P := Try.prog, take := [(168, 19), (168, 24)], keep := [((168, 3), { hd := [1, 5, 9, 10, 11], bx := [], ex := [5], rt := [4] })], gho := [], ctx := [] }
@[simp] theorem g168_P : g168.P = Try.prog := rfl
@[simp] theorem g168_t : g168.take = [(168, 19), (168, 24)] := rfl
@[simp] theorem g168_g : g168.gho = [] := rfl
@[simp] theorem g168_r : g168.ro = [] := rfl
@[simp] theorem g168_w : g168.away = [] := by rw [g168]
set_option maxHeartbeats 4000000 in
set_option maxRecDepth 100000 in
theorem w168 {list n_} {y} (hp : impl_Positions list n_ = some y) : ∃ m, callo g168 0 168 [av .shr list, av .shr n_] mem0 = some (Res.res y, m) := by
  refine start_fn (Try.f168.body.getD .skip) [.tmp 4] rfl rfl Try.func168 (by kernel_rfl) (by kernel_rfl) (by simp [Try.ntmps168]) rfl ?_
  unfold impl_Positions at hp
  simp [Try.f168]
  obtain ⟨r_21, h_22, hp⟩ := bind_some hp
  obtain ⟨I_3, I_3_⟩ : ∃ I : (List Int) × Int → St → Prop, I = (fun (s_1 : (List Int) × Int) (σ : St) => σ.env 1 = .one (.s (.int .i64 n_)) ∧ σ.env 5 = .one (.l .own s_1.1.length (encL s_1.1)) ∧ σ.env 9 = .one (.l .shr list.length (encL list)) ∧ σ.env 10 = .one (.s (.int .i64 (list.length : Int))) ∧ σ.env 11 = .one (.s (.int .i64 s_1.2)) ∧ σ.mem = mem0) := ⟨_, rfl⟩
  obtain ⟨X_4, X_4_⟩ : ∃ X : (List Int) → Out → Prop, X = (fun (r_21 : (List Int)) (out : Out) => ∃ σ : St, out = .exit 0 σ ∧ σ.env 5 = .one (.l .own r_21.length (encL r_21)) ∧ σ.mem = mem0) := ⟨_, rfl⟩
  refine loopP ({ hd := [1, 5, 9, 10, 11], bx := [], ex := [5], rt := [4] }) I_3 X_4 h_22 (by exact rfl) ?_ ?_ ?_
  · rw [I_3_]
    refine ⟨?_, ?_, ?_, ?_, ?_, ?_⟩ <;> simp [restrict_env, restrict_mem]
  · intro s_1 σ_5 a_2 hI hp
    rw [I_3_] at hI
    obtain ⟨q_6, q_7, q_8, q_9, q_10, q_11⟩ := hI
    try simp [q_6, q_7, q_8, q_9, q_10, q_11]
    rcases cond_cases hp with ⟨h_12, hp⟩ | ⟨h_12, hp⟩
    · try simp at h_12
      obtain ⟨e_13, h_14, hp⟩ := bind_some hp
      have b_15 := at_lo h_14
      have b_16 := at_hi h_14
      try simp at b_15
      try simp at b_16
      have c_17 := seg_at' h_14 0 1 (by decide) (ds := [.sc (.int .i64 e_13)]) rfl
      try simp at c_17
      try simp [q_6, q_7, q_8, q_9, q_10, q_11, h_12, b_15, b_16, c_17]
      rcases cond_cases hp with ⟨h_18, hp⟩ | ⟨h_18, hp⟩
      · try simp at h_18
        obtain ⟨_, h_19, hp⟩ := bind_some hp
        have b_20 := room_ok h_19
        try simp at b_20
        cases hp
        try simp [q_6, q_7, q_8, q_9, q_10, q_11, h_12, h_18, b_20]
        refine goal_next ?_
        rw [I_3_]
        refine ⟨?_, ?_, ?_, ?_, ?_, ?_⟩ <;> simp [restrict_env, restrict_mem, q_6, q_7, q_8, q_9, q_10, q_11, h_12, h_18, b_20]
      · try simp at h_18
        cases hp
        try simp [q_6, q_7, q_8, q_9, q_10, q_11, h_12, h_18]
        refine goal_next ?_
        rw [I_3_]
        refine ⟨?_, ?_, ?_, ?_, ?_, ?_⟩ <;> simp [restrict_env, restrict_mem, q_6, q_7, q_8, q_9, q_10, q_11, h_12, h_18]
    · try simp at h_12
      cases hp
      try simp [q_6, q_7, q_8, q_9, q_10, q_11, h_12]
      refine goal_outX ?_
      rw [X_4_]
      refine ⟨_, rfl, ?_, ?_⟩ <;> simp [restrict_env, restrict_mem, q_6, q_7, q_8, q_9, q_10, q_11, h_12]
  · intro out hX
    rw [X_4_] at hX
    obtain ⟨σ_23, rfl, q_24, q_25⟩ := hX
    cases hp
    simp [Goal, FnEnd, q_24, q_25]
theorem pc168 : PC Try.prog 168 C168 := pc_of (g := g168) (fun f F h => by cases h) ⟨Try.f168, Try.func168, by kernel_rfl, by kernel_rfl⟩ fun x y h => w168 h
end Go.Proofs

