import Derived.Test.YtmmliafoddlgfaaEvA15
set_option linter.unusedSimpArgs false
set_option linter.unusedVariables false
set_option linter.unnecessarySimpa false
namespace Go.Proofs
open Go.Ev
noncomputable def C71 : List AV → Option AV := specP (X := THeap × Int × Unit) fun x => impl_Followed x.1 x.2.1
theorem C71_eq {h_ cell} {y} (h : impl_Followed h_ cell = some y) : C71 [av .shr h_, av .shr cell] = some (Res.res y) := specP_eq (X := THeap × Int × Unit) (F := fun x => impl_Followed x.1 x.2.1) (x := (h_, cell, ())) h
noncomputable def g71 : Cfg := { P := Try.prog, take := [(71, 27), (71, 31)], keep := [((71, 3), { hd := [1, 2, 5, 6], bx := [], ex := [5], rt := [4] })], gho := [], ctx := [(70, C70), (90, C90)] }
@[simp] theorem g71_P : g71.P = Try.prog := rfl
@[simp] theorem g71_t : g71.take = [(71, 27), (71, 31)] := rfl
@[simp] theorem g71_g : g71.gho = [] := rfl
@[simp] theorem g71_r : g71.ro = [] := rfl
@[simp] theorem g71_w : g71.away = [] ∧ g71.give = [] ∧ g71.octx = [] := by rw [g71]; exact ⟨rfl, rfl, rfl⟩
@[simp] theorem g71_70 : lookN 70 g71.ctx = some C70 := rfl
@[simp] theorem g71_90 : lookN 90 g71.ctx = some C90 := rfl
set_option maxHeartbeats 4000000 in
set_option maxRecDepth 100000 in
theorem w71 {h_ cell} {y} (hp : impl_Followed h_ cell = some y) : ∃ m, callo g71 0 71 [av .shr h_, av .shr cell] mem0 = some (Res.res y, m) := by
  refine start_fn (Try.f71.body.getD .skip) [.tmp 4] rfl rfl Try.func71 (by kernel_rfl) (by kernel_rfl) (by simp [Try.ntmps71]) rfl ?_
  unfold impl_Followed at hp
  simp [Try.f71]
  obtain ⟨r_44, h_45, hp⟩ := bind_some hp
  obtain ⟨I_3, I_3_⟩ : ∃ I : (List Int) × Int → St → Prop, I = (fun (s_1 : (List Int) × Int) (σ : St) => σ.env 1 = .one (.s (.int .i64 cell)) ∧ σ.env 2 = .one (.ptr (1, 2) 0) ∧ σ.env 5 = .one (.l .own s_1.1.length (encL s_1.1)) ∧ σ.env 6 = .one (.s (.int .i64 s_1.2)) ∧ σ.mem (1, 2) = some [(.l .shr h_.vars.length (encL h_.vars)), (.l .shr h_.next.length (encL h_.next))] ∧ NoBox [(1, 2)] σ.mem) := ⟨_, rfl⟩
  obtain ⟨X_4, X_4_⟩ : ∃ X : (((List Int)) ⊕ (Unit)) → Out → Prop, X = (fun (r_44 : ((List Int)) ⊕ (Unit)) (out : Out) => Sum.elim (fun r_44 => ∃ σ : St, out = .exit 0 σ ∧ σ.env 5 = .one (.l .own r_44.length (encL r_44)) ∧ σ.mem (1, 2) = some [(.l .shr h_.vars.length (encL h_.vars)), (.l .shr h_.next.length (encL h_.next))] ∧ NoBox [(1, 2)] σ.mem) (fun r_44 => ∃ σ : St, out = .ret σ ∧ σ.env 4 = .one (.l .own 0 []) ∧ σ.mem (1, 2) = some [(.l .shr h_.vars.length (encL h_.vars)), (.l .shr h_.next.length (encL h_.next))] ∧ NoBox [(1, 2)] σ.mem) r_44) := ⟨_, rfl⟩
  refine loopP ({ hd := [1, 2, 5, 6], bx := [], ex := [5], rt := [4] }) I_3 X_4 h_45 (by exact rfl) ?_ ?_ ?_
  · rw [I_3_]
    refine ⟨?_, ?_, ?_, ?_, ?_, NoBox.restrict (by intro k hk hb; simp at hk hb; simp [hk, hb])⟩ <;> simp [restrict_env, restrict_mem]
  · intro s_1 σ_5 a_2 hI hp
    rw [I_3_] at hI
    obtain ⟨q_6, q_7, q_8, q_9, q_10, hn_11⟩ := hI
    try simp [q_6, q_7, q_8, q_9, q_10]
    rcases cond_cases hp with ⟨h_12, hp⟩ | ⟨h_12, hp⟩
    · try simp at h_12
      obtain ⟨y_13, h_14, hp⟩ := bind_some hp
      have c_15 := C90_eq h_14
      simp at c_15
      try simp [q_6, q_7, q_8, q_9, q_10, h_12, c_15]
      rcases cond_cases hp with ⟨h_16, hp⟩ | ⟨h_16, hp⟩
      · try simp at h_16
        obtain ⟨y_17, h_18, hp⟩ := bind_some hp
        have c_19 := C70_eq h_18
        simp at c_19
        try simp [q_6, q_7, q_8, q_9, q_10, h_12, h_16, c_19]
        rcases cond_cases hp with ⟨h_20, hp⟩ | ⟨h_20, hp⟩
        · try simp at h_20
          cases hp
          try simp [q_6, q_7, q_8, q_9, q_10, h_12, h_16, h_20]
          refine goal_outX ?_
          rw [X_4_]
          refine ⟨_, rfl, ?_, ?_, NoBox.restrict (by intro k hk hb; simp at hk hb; simp [hk, hb, q_6, q_7, q_8, q_9, q_10, h_12, h_16, h_20, hn_11 k (by simp [hk, hb])])⟩ <;> simp [restrict_env, restrict_mem, q_6, q_7, q_8, q_9, q_10, h_12, h_16, h_20]
        · try simp at h_20
          obtain ⟨_, h_21, hp⟩ := bind_some hp
          have b_22 := room_ok h_21
          try simp at b_22
          obtain ⟨e_23, h_24, hp⟩ := bind_some hp
          have b_25 := at_lo h_24
          have b_26 := at_hi h_24
          try simp at b_25
          try simp at b_26
          have c_27 := seg_at' h_24 0 1 (by decide) (ds := [.sc (.int .i64 e_23)]) rfl
          try simp at c_27
          cases hp
          try simp [q_6, q_7, q_8, q_9, q_10, h_12, h_16, h_20, b_22, b_25, b_26, c_27]
          refine goal_next ?_
          rw [I_3_]
          refine ⟨?_, ?_, ?_, ?_, ?_, NoBox.restrict (by intro k hk hb; simp at hk hb; simp [hk, hb, q_6, q_7, q_8, q_9, q_10, h_12, h_16, h_20, b_22, b_25, b_26, c_27, hn_11 k (by simp [hk, hb])])⟩ <;> simp [restrict_env, restrict_mem, q_6, q_7, q_8, q_9, q_10, h_12, h_16, h_20, b_22, b_25, b_26, c_27]
      · try simp at h_16
        cases hp
        try simp [q_6, q_7, q_8, q_9, q_10, h_12, h_16]
        refine goal_outR ?_
        rw [X_4_]
        refine ⟨_, rfl, ?_, ?_, NoBox.restrict (by intro k hk hb; simp at hk hb; simp [hk, hb, q_6, q_7, q_8, q_9, q_10, h_12, h_16, hn_11 k (by simp [hk, hb])])⟩ <;> simp [restrict_env, restrict_mem, q_6, q_7, q_8, q_9, q_10, h_12, h_16]
    · try simp at h_12
      try simp [q_6, q_7, q_8, q_9, q_10, h_12]
      rcases cond_cases hp with ⟨h_28, hp⟩ | ⟨h_28, hp⟩
      · try simp at h_28
        obtain ⟨y_29, h_30, hp⟩ := bind_some hp
        have c_31 := C90_eq h_30
        simp at c_31
        try simp [q_6, q_7, q_8, q_9, q_10, h_12, h_28, c_31]
        rcases cond_cases hp with ⟨h_32, hp⟩ | ⟨h_32, hp⟩
        · try simp at h_32
          obtain ⟨y_33, h_34, hp⟩ := bind_some hp
          have c_35 := C70_eq h_34
          simp at c_35
          try simp [q_6, q_7, q_8, q_9, q_10, h_12, h_28, h_32, c_35]
          rcases cond_cases hp with ⟨h_36, hp⟩ | ⟨h_36, hp⟩
          · try simp at h_36
            cases hp
            try simp [q_6, q_7, q_8, q_9, q_10, h_12, h_28, h_32, h_36]
            refine goal_outX ?_
            rw [X_4_]
            refine ⟨_, rfl, ?_, ?_, NoBox.restrict (by intro k hk hb; simp at hk hb; simp [hk, hb, q_6, q_7, q_8, q_9, q_10, h_12, h_28, h_32, h_36, hn_11 k (by simp [hk, hb])])⟩ <;> simp [restrict_env, restrict_mem, q_6, q_7, q_8, q_9, q_10, h_12, h_28, h_32, h_36]
          · try simp at h_36
            obtain ⟨_, h_37, hp⟩ := bind_some hp
            have b_38 := room_ok h_37
            try simp at b_38
            obtain ⟨e_39, h_40, hp⟩ := bind_some hp
            have b_41 := at_lo h_40
            have b_42 := at_hi h_40
            try simp at b_41
            try simp at b_42
            have c_43 := seg_at' h_40 0 1 (by decide) (ds := [.sc (.int .i64 e_39)]) rfl
            try simp at c_43
            cases hp
            try simp [q_6, q_7, q_8, q_9, q_10, h_12, h_28, h_32, h_36, b_38, b_41, b_42, c_43]
            refine goal_next ?_
            rw [I_3_]
            refine ⟨?_, ?_, ?_, ?_, ?_, NoBox.restrict (by intro k hk hb; simp at hk hb; simp [hk, hb, q_6, q_7, q_8, q_9, q_10, h_12, h_28, h_32, h_36, b_38, b_41, b_42, c_43, hn_11 k (by simp [hk, hb])])⟩ <;> simp [restrict_env, restrict_mem, q_6, q_7, q_8, q_9, q_10, h_12, h_28, h_32, h_36, b_38, b_41, b_42, c_43]
        · try simp at h_32
          cases hp
          try simp [q_6, q_7, q_8, q_9, q_10, h_12, h_28, h_32]
          refine goal_outR ?_
          rw [X_4_]
          refine ⟨_, rfl, ?_, ?_, NoBox.restrict (by intro k hk hb; simp at hk hb; simp [hk, hb, q_6, q_7, q_8, q_9, q_10, h_12, h_28, h_32, hn_11 k (by simp [hk, hb])])⟩ <;> simp [restrict_env, restrict_mem, q_6, q_7, q_8, q_9, q_10, h_12, h_28, h_32]
      · try simp at h_28
        cases hp
        try simp [q_6, q_7, q_8, q_9, q_10, h_12, h_28]
        refine goal_outX ?_
        rw [X_4_]
        refine ⟨_, rfl, ?_, ?_, NoBox.restrict (by intro k hk hb; simp at hk hb; simp [hk, hb, q_6, q_7, q_8, q_9, q_10, h_12, h_28, hn_11 k (by simp [hk, hb])])⟩ <;> simp [restrict_env, restrict_mem, q_6, q_7, q_8, q_9, q_10, h_12, h_28]
  · intro out hX
    rw [X_4_] at hX
    rcases r_44 with r_44 | r_44
    · simp only [Sum.elim_inl, Sum.elim_inr] at hX hp
      obtain ⟨σ_46, rfl, q_47, q_48, hn_49⟩ := hX
      cases hp
      simp [Goal, FnEnd, q_47, q_48]
    · simp only [Sum.elim_inl, Sum.elim_inr] at hX hp
      obtain ⟨σ_50, rfl, q_51, q_52, hn_53⟩ := hX
      cases hp
      simp [Goal, FnEnd, q_51, q_52]
theorem pc71 : PC Try.prog 71 C71 := pc_of (g := g71) (ctxOK_of [(70, C70), (90, C90)] rfl ⟨pc70, pc90, trivial⟩) ⟨Try.f71, Try.func71, by kernel_rfl, by kernel_rfl⟩ fun x y h => w71 h

noncomputable def C61 : List AV → Option AV := specP (X := THeap × Unit) fun x => impl_Heap_isCyclic x.1
theorem C61_eq {h_} {y} (h : impl_Heap_isCyclic h_ = some y) : C61 [av .shr h_] = some (Res.res y) := specP_eq (X := THeap × Unit) (F := fun x => impl_Heap_isCyclic x.1) (x := (h_, ())) h
noncomputable def g61 : Cfg := { P := Try.prog, take := [], keep := [((61, 2), { hd := [1, 6, 7], bx := [], ex := [], rt := [2] })], gho := [], ctx := [(70, C70), (71, C71)] }
@[simp] theorem g61_P : g61.P = Try.prog := rfl
@[simp] theorem g61_t : g61.take = [] := rfl
@[simp] theorem g61_g : g61.gho = [] := rfl
@[simp] theorem g61_r : g61.ro = [] := rfl
@[simp] theorem g61_w : g61.away = [] ∧ g61.give = [] ∧ g61.octx = [] := by rw [g61]; exact ⟨rfl, rfl, rfl⟩
@[simp] theorem g61_70 : lookN 70 g61.ctx = some C70 := rfl
@[simp] theorem g61_71 : lookN 71 g61.ctx = some C71 := rfl
set_option maxHeartbeats 4000000 in
set_option maxRecDepth 100000 in
theorem w61 {h_} {y} (hp : impl_Heap_isCyclic h_ = some y) : ∃ m, callo g61 0 61 [av .shr h_] mem0 = some (Res.res y, m) := by
  refine start_fn (Try.f61.body.getD .skip) [.tmp 2] rfl rfl Try.func61 (by kernel_rfl) (by kernel_rfl) (by simp [Try.ntmps61]) rfl ?_
  unfold impl_Heap_isCyclic at hp
  simp [Try.f61]
  obtain ⟨r_24, h_25, hp⟩ := bind_some hp
  obtain ⟨I_3, I_3_⟩ : ∃ I : Int → St → Prop, I = (fun (s_1 : Int) (σ : St) => σ.env 1 = .one (.ptr (1, 1) 0) ∧ σ.env 6 = .one (.s (.int .i64 (h_.next.length : Int))) ∧ σ.env 7 = .one (.s (.int .i64 s_1)) ∧ σ.mem (1, 1) = some [(.l .shr h_.vars.length (encL h_.vars)), (.l .shr h_.next.length (encL h_.next))] ∧ NoBox [(1, 1)] σ.mem) := ⟨_, rfl⟩
  obtain ⟨X_4, X_4_⟩ : ∃ X : ((Bool) ⊕ (Unit)) → Out → Prop, X = (fun (r_24 : (Bool) ⊕ (Unit)) (out : Out) => Sum.elim (fun r_24 => ∃ σ : St, out = .ret σ ∧ σ.env 2 = .one (.s (.bool r_24)) ∧ σ.mem (1, 1) = some [(.l .shr h_.vars.length (encL h_.vars)), (.l .shr h_.next.length (encL h_.next))] ∧ NoBox [(1, 1)] σ.mem) (fun r_24 => ∃ σ : St, out = .exit 0 σ ∧ σ.mem (1, 1) = some [(.l .shr h_.vars.length (encL h_.vars)), (.l .shr h_.next.length (encL h_.next))] ∧ NoBox [(1, 1)] σ.mem) r_24) := ⟨_, rfl⟩
  refine loopP ({ hd := [1, 6, 7], bx := [], ex := [], rt := [2] }) I_3 X_4 h_25 (by exact rfl) ?_ ?_ ?_
  · rw [I_3_]
    refine ⟨?_, ?_, ?_, ?_, NoBox.restrict (by intro k hk hb; simp at hk hb; simp [hk, hb])⟩ <;> simp [restrict_env, restrict_mem]
  · intro s_1 σ_5 a_2 hI hp
    rw [I_3_] at hI
    obtain ⟨q_6, q_7, q_8, q_9, hn_10⟩ := hI
    try simp [q_6, q_7, q_8, q_9]
    rcases cond_cases hp with ⟨h_11, hp⟩ | ⟨h_11, hp⟩
    · try simp at h_11
      obtain ⟨e_12, h_13, hp⟩ := bind_some hp
      have b_14 := at_lo h_13
      have b_15 := at_hi h_13
      try simp at b_14
      try simp at b_15
      have c_16 := seg_at' h_13 0 1 (by decide) (ds := [.sc (.int .i64 e_12)]) rfl
      try simp at c_16
      obtain ⟨y_17, h_18, hp⟩ := bind_some hp
      have c_19 := C71_eq h_18
      simp at c_19
      obtain ⟨y_20, h_21, hp⟩ := bind_some hp
      have c_22 := C70_eq h_21
      simp at c_22
      try simp [q_6, q_7, q_8, q_9, h_11, b_14, b_15, c_16, c_19, c_22]
      rcases cond_cases hp with ⟨h_23, hp⟩ | ⟨h_23, hp⟩
      · try simp at h_23
        cases hp
        try simp [q_6, q_7, q_8, q_9, h_11, h_23]
        refine goal_outR ?_
        rw [X_4_]
        refine ⟨_, rfl, ?_, ?_, NoBox.restrict (by intro k hk hb; simp at hk hb; simp [hk, hb, q_6, q_7, q_8, q_9, h_11, h_23, hn_10 k (by simp [hk, hb])])⟩ <;> simp [restrict_env, restrict_mem, q_6, q_7, q_8, q_9, h_11, h_23]
      · try simp at h_23
        cases hp
        try simp [q_6, q_7, q_8, q_9, h_11, h_23]
        refine goal_next ?_
        rw [I_3_]
        refine ⟨?_, ?_, ?_, ?_, NoBox.restrict (by intro k hk hb; simp at hk hb; simp [hk, hb, q_6, q_7, q_8, q_9, h_11, h_23, hn_10 k (by simp [hk, hb])])⟩ <;> simp [restrict_env, restrict_mem, q_6, q_7, q_8, q_9, h_11, h_23]
    · try simp at h_11
      cases hp
      try simp [q_6, q_7, q_8, q_9, h_11]
      refine goal_outX ?_
      rw [X_4_]
      exact ⟨_, rfl, by simp [restrict_mem, q_6, q_7, q_8, q_9, h_11], NoBox.restrict (by intro k hk hb; simp at hk hb; simp [hk, hb, q_6, q_7, q_8, q_9, h_11, hn_10 k (by simp [hk, hb])])⟩
  · intro out hX
    rw [X_4_] at hX
    rcases r_24 with r_24 | r_24
    · simp only [Sum.elim_inl, Sum.elim_inr] at hX hp
      obtain ⟨σ_26, rfl, q_27, q_28, hn_29⟩ := hX
      cases hp
      simp [Goal, FnEnd, q_27, q_28]
    · simp only [Sum.elim_inl, Sum.elim_inr] at hX hp
      obtain ⟨σ_30, rfl, q_31, hn_32⟩ := hX
      cases hp
      simp [Goal, FnEnd, q_31]
theorem pc61 : PC Try.prog 61 C61 := pc_of (g := g61) (ctxOK_of [(70, C70), (71, C71)] rfl ⟨pc70, pc71, trivial⟩) ⟨Try.f61, Try.func61, by kernel_rfl, by kernel_rfl⟩ fun x y h => w61 h

noncomputable def C62 : List AV → Option AV := specP (X := THeap × Unit) fun x => impl_Heap_met x.1
theorem C62_eq {h_} {y} (h : impl_Heap_met h_ = some y) : C62 [av .shr h_] = some (Res.res y) := specP_eq (X := THeap × Unit) (F := fun x => impl_Heap_met x.1) (x := (h_, ())) h
noncomputable def g62 : Cfg := { P := Try.prog, take := [(62, 28), (62, 34)], keep := [((62, 3), { hd := [1, 3, 10, 11, 12], bx := [], ex := [3], rt := [2] }), ((62, 6), { hd := [1, 3, 10, 11, 12, 18, 19, 20], bx := [], ex := [1, 3, 10, 11, 12], rt := [2] })], gho := [], ctx := [(70, C70), (71, C71)] }
@[simp] theorem g62_P : g62.P = Try.prog := rfl
@[simp] theorem g62_t : g62.take = [(62, 28), (62, 34)] := rfl
@[simp] theorem g62_g : g62.gho = [] := rfl
@[simp] theorem g62_r : g62.ro = [] := rfl
@[simp] theorem g62_w : g62.away = [] ∧ g62.give = [] ∧ g62.octx = [] := by rw [g62]; exact ⟨rfl, rfl, rfl⟩
@[simp] theorem g62_70 : lookN 70 g62.ctx = some C70 := rfl
@[simp] theorem g62_71 : lookN 71 g62.ctx = some C71 := rfl
set_option maxHeartbeats 4000000 in
set_option maxRecDepth 100000 in
theorem w62 {h_} {y} (hp : impl_Heap_met h_ = some y) : ∃ m, callo g62 0 62 [av .shr h_] mem0 = some (Res.res y, m) := by
  refine start_fn (Try.f62.body.getD .skip) [.tmp 2] rfl rfl Try.func62 (by kernel_rfl) (by kernel_rfl) (by simp [Try.ntmps62]) rfl ?_
  unfold impl_Heap_met at hp
  simp [Try.f62]
  obtain ⟨r_59, h_60, hp⟩ := bind_some hp
  obtain ⟨I_3, I_3_⟩ : ∃ I : (List Int) × Int → St → Prop, I = (fun (s_1 : (List Int) × Int) (σ : St) => σ.env 1 = .one (.ptr (1, 1) 0) ∧ σ.env 3 = .one (.l .own s_1.1.length (encL s_1.1)) ∧ σ.env 10 = .one (.l .shr h_.vars.length (encL h_.vars)) ∧ σ.env 11 = .one (.s (.int .i64 (h_.vars.length : Int))) ∧ σ.env 12 = .one (.s (.int .i64 s_1.2)) ∧ σ.mem (1, 1) = some [(.l .shr h_.vars.length (encL h_.vars)), (.l .shr h_.next.length (encL h_.next))] ∧ NoBox [(1, 1)] σ.mem) := ⟨_, rfl⟩
  obtain ⟨X_4, X_4_⟩ : ∃ X : (List Int) → Out → Prop, X = (fun (r_59 : (List Int)) (out : Out) => ∃ σ : St, out = .exit 0 σ ∧ σ.env 3 = .one (.l .own r_59.length (encL r_59)) ∧ σ.mem (1, 1) = some [(.l .shr h_.vars.length (encL h_.vars)), (.l .shr h_.next.length (encL h_.next))] ∧ NoBox [(1, 1)] σ.mem) := ⟨_, rfl⟩
  refine loopP ({ hd := [1, 3, 10, 11, 12], bx := [], ex := [3], rt := [2] }) I_3 X_4 h_60 (by exact rfl) ?_ ?_ ?_
  · rw [I_3_]
    refine ⟨?_, ?_, ?_, ?_, ?_, ?_, NoBox.restrict (by intro k hk hb; simp at hk hb; simp [hk, hb])⟩ <;> simp [restrict_env, restrict_mem]
  · intro s_1 σ_5 a_2 hI hp
    rw [I_3_] at hI
    obtain ⟨q_6, q_7, q_8, q_9, q_10, q_11, hn_12⟩ := hI
    try simp [q_6, q_7, q_8, q_9, q_10, q_11]
    rcases cond_cases hp with ⟨h_13, hp⟩ | ⟨h_13, hp⟩
    · try simp at h_13
      obtain ⟨e_14, h_15, hp⟩ := bind_some hp
      have b_16 := at_lo h_15
      have b_17 := at_hi h_15
      try simp at b_16
      try simp at b_17
      have c_18 := seg_at' h_15 0 1 (by decide) (ds := [.sc (.int .i64 e_14)]) rfl
      try simp at c_18
      obtain ⟨y_19, h_20, hp⟩ := bind_some hp
      have c_21 := C71_eq h_20
      simp at c_21
      try simp [q_6, q_7, q_8, q_9, q_10, q_11, h_13, b_16, b_17, c_18, c_21]
      obtain ⟨r_49, h_50, hp⟩ := bind_some hp
      obtain ⟨I_24, I_24_⟩ : ∃ I : Int × (List Int) → St → Prop, I = (fun (s_22 : Int × (List Int)) (σ : St) => σ.env 1 = .one (.ptr (1, 1) 0) ∧ σ.env 3 = .one (.l .own s_22.2.length (encL s_22.2)) ∧ σ.env 10 = .one (.l .shr h_.vars.length (encL h_.vars)) ∧ σ.env 11 = .one (.s (.int .i64 (h_.vars.length : Int))) ∧ σ.env 12 = .one (.s (.int .i64 s_1.2)) ∧ σ.env 18 = .one (.l .own y_19.length (encL y_19)) ∧ σ.env 19 = .one (.s (.int .i64 (y_19.length : Int))) ∧ σ.env 20 = .one (.s (.int .i64 s_22.1)) ∧ σ.mem (1, 1) = some [(.l .shr h_.vars.length (encL h_.vars)), (.l .shr h_.next.length (encL h_.next))] ∧ NoBox [(1, 1)] σ.mem) := ⟨_, rfl⟩
      obtain ⟨X_25, X_25_⟩ : ∃ X : (List Int) → Out → Prop, X = (fun (r_49 : (List Int)) (out : Out) => ∃ σ : St, out = .exit 2 σ ∧ σ.env 1 = .one (.ptr (1, 1) 0) ∧ σ.env 3 = .one (.l .own r_49.length (encL r_49)) ∧ σ.env 10 = .one (.l .shr h_.vars.length (encL h_.vars)) ∧ σ.env 11 = .one (.s (.int .i64 (h_.vars.length : Int))) ∧ σ.env 12 = .one (.s (.int .i64 s_1.2)) ∧ σ.mem (1, 1) = some [(.l .shr h_.vars.length (encL h_.vars)), (.l .shr h_.next.length (encL h_.next))] ∧ NoBox [(1, 1)] σ.mem) := ⟨_, rfl⟩
      refine loopP ({ hd := [1, 3, 10, 11, 12, 18, 19, 20], bx := [], ex := [1, 3, 10, 11, 12], rt := [2] }) I_24 X_25 h_50 (by exact rfl) ?_ ?_ ?_
      · rw [I_24_]
        refine ⟨?_, ?_, ?_, ?_, ?_, ?_, ?_, ?_, ?_, NoBox.restrict (by intro k hk hb; simp at hk hb; simp [hk, hb, q_6, q_7, q_8, q_9, q_10, q_11, h_13, hn_12 k (by simp [hk, hb])])⟩ <;> simp [restrict_env, restrict_mem, q_6, q_7, q_8, q_9, q_10, q_11, h_13]
      · intro s_22 σ_26 a_23 hI hp
        rw [I_24_] at hI
        obtain ⟨q_27, q_28, q_29, q_30, q_31, q_32, q_33, q_34, q_35, hn_36⟩ := hI
        try simp [h_13, q_27, q_28, q_29, q_30, q_31, q_32, q_33, q_34, q_35]
        rcases cond_cases hp with ⟨h_37, hp⟩ | ⟨h_37, hp⟩
        · try simp at h_37
          obtain ⟨e_38, h_39, hp⟩ := bind_some hp
          have b_40 := at_lo h_39
          have b_41 := at_hi h_39
          try simp at b_40
          try simp at b_41
          have c_42 := seg_at' h_39 0 1 (by decide) (ds := [.sc (.int .i64 e_38)]) rfl
          try simp at c_42
          obtain ⟨y_43, h_44, hp⟩ := bind_some hp
          have c_45 := C70_eq h_44
          simp at c_45
          try simp [h_13, q_27, q_28, q_29, q_30, q_31, q_32, q_33, q_34, q_35, h_37, b_40, b_41, c_42, c_45]
          rcases cond_cases hp with ⟨h_46, hp⟩ | ⟨h_46, hp⟩
          · try simp at h_46
            cases hp
            try simp [h_13, q_27, q_28, q_29, q_30, q_31, q_32, q_33, q_34, q_35, h_37, h_46]
            refine goal_next ?_
            rw [I_24_]
            refine ⟨?_, ?_, ?_, ?_, ?_, ?_, ?_, ?_, ?_, NoBox.restrict (by intro k hk hb; simp at hk hb; simp [hk, hb, h_13, q_27, q_28, q_29, q_30, q_31, q_32, q_33, q_34, q_35, h_37, h_46, hn_36 k (by simp [hk, hb])])⟩ <;> simp [restrict_env, restrict_mem, h_13, q_27, q_28, q_29, q_30, q_31, q_32, q_33, q_34, q_35, h_37, h_46]
          · try simp at h_46
            obtain ⟨_, h_47, hp⟩ := bind_some hp
            have b_48 := room_ok h_47
            try simp at b_48
            cases hp
            try simp [h_13, q_27, q_28, q_29, q_30, q_31, q_32, q_33, q_34, q_35, h_37, h_46, b_48]
            refine goal_next ?_
            rw [I_24_]
            refine ⟨?_, ?_, ?_, ?_, ?_, ?_, ?_, ?_, ?_, NoBox.restrict (by intro k hk hb; simp at hk hb; simp [hk, hb, h_13, q_27, q_28, q_29, q_30, q_31, q_32, q_33, q_34, q_35, h_37, h_46, b_48, hn_36 k (by simp [hk, hb])])⟩ <;> simp [restrict_env, restrict_mem, h_13, q_27, q_28, q_29, q_30, q_31, q_32, q_33, q_34, q_35, h_37, h_46, b_48]
        · try simp at h_37
          cases hp
          try simp [h_13, q_27, q_28, q_29, q_30, q_31, q_32, q_33, q_34, q_35, h_37]
          refine goal_outX ?_
          rw [X_25_]
          refine ⟨_, rfl, ?_, ?_, ?_, ?_, ?_, ?_, NoBox.restrict (by intro k hk hb; simp at hk hb; simp [hk, hb, h_13, q_27, q_28, q_29, q_30, q_31, q_32, q_33, q_34, q_35, h_37, hn_36 k (by simp [hk, hb])])⟩ <;> simp [restrict_env, restrict_mem, h_13, q_27, q_28, q_29, q_30, q_31, q_32, q_33, q_34, q_35, h_37]
      · intro out hX
        rw [X_25_] at hX
        obtain ⟨σ_51, rfl, q_52, q_53, q_54, q_55, q_56, q_57, hn_58⟩ := hX
        cases hp
        try simp [h_13, q_52, q_53, q_54, q_55, q_56, q_57]
        refine goal_next ?_
        rw [I_3_]
        refine ⟨?_, ?_, ?_, ?_, ?_, ?_, NoBox.restrict (by intro k hk hb; simp at hk hb; simp [hk, hb, h_13, q_52, q_53, q_54, q_55, q_56, q_57, hn_58 k (by simp [hk, hb])])⟩ <;> simp [restrict_env, restrict_mem, h_13, q_52, q_53, q_54, q_55, q_56, q_57]
    · try simp at h_13
      cases hp
      try simp [q_6, q_7, q_8, q_9, q_10, q_11, h_13]
      refine goal_outX ?_
      rw [X_4_]
      refine ⟨_, rfl, ?_, ?_, NoBox.restrict (by intro k hk hb; simp at hk hb; simp [hk, hb, q_6, q_7, q_8, q_9, q_10, q_11, h_13, hn_12 k (by simp [hk, hb])])⟩ <;> simp [restrict_env, restrict_mem, q_6, q_7, q_8, q_9, q_10, q_11, h_13]
  · intro out hX
    rw [X_4_] at hX
    obtain ⟨σ_61, rfl, q_62, q_63, hn_64⟩ := hX
    cases hp
    simp [Goal, FnEnd, q_62, q_63]
theorem pc62 : PC Try.prog 62 C62 := pc_of (g := g62) (ctxOK_of [(70, C70), (71, C71)] rfl ⟨pc70, pc71, trivial⟩) ⟨Try.f62, Try.func62, by kernel_rfl, by kernel_rfl⟩ fun x y h => w62 h

noncomputable def C36 : List AV → Option AV := specP (X := Int × THeap × Unit) fun x => impl_IsHeap x.1 x.2.1
theorem C36_eq {vars h_} {y} (h : impl_IsHeap vars h_ = some y) : C36 [av .shr vars, av .shr h_] = some (Res.res y) := specP_eq (X := Int × THeap × Unit) (F := fun x => impl_IsHeap x.1 x.2.1) (x := (vars, h_, ())) h
noncomputable def g36 : Cfg := { P := Try.prog, take := [], keep := [((36, 5), { hd := [3, 5, 35, 36, 37], bx := [], ex := [3, 5], rt := [4] })], gho := [], ctx := [(38, C38), (60, C60), (61, C61), (62, C62)] }
@[simp] theorem g36_P : g36.P = Try.prog := rfl
@[simp] theorem g36_t : g36.take = [] := rfl
@[simp] theorem g36_g : g36.gho = [] := rfl
@[simp] theorem g36_r : g36.ro = [] := rfl
@[simp] theorem g36_w : g36.away = [] ∧ g36.give = [] ∧ g36.octx = [] := by rw [g36]; exact ⟨rfl, rfl, rfl⟩
@[simp] theorem g36_38 : lookN 38 g36.ctx = some C38 := rfl
@[simp] theorem g36_60 : lookN 60 g36.ctx = some C60 := rfl
@[simp] theorem g36_61 : lookN 61 g36.ctx = some C61 := rfl
@[simp] theorem g36_62 : lookN 62 g36.ctx = some C62 := rfl
set_option maxHeartbeats 4000000 in
set_option maxRecDepth 100000 in
theorem w36 {vars h_} {y} (hp : impl_IsHeap vars h_ = some y) : ∃ m, callo g36 0 36 [av .shr vars, av .shr h_] mem0 = some (Res.res y, m) := by
  refine start_fn (Try.f36.body.getD .skip) [.tmp 4] rfl rfl Try.func36 (by kernel_rfl) (by kernel_rfl) (by simp [Try.ntmps36]) rfl ?_
  unfold impl_IsHeap at hp
  obtain ⟨y_1, h_2, hp⟩ := bind_some hp
  have c_3 := C38_eq h_2
  simp at c_3
  simp [Try.f36, c_3]
  rcases cond_cases hp with ⟨h_4, hp⟩ | ⟨h_4, hp⟩
  · try simp at h_4
    try simp [h_4]
    rcases cond_cases hp with ⟨h_5, hp⟩ | ⟨h_5, hp⟩
    · try simp at h_5
      cases hp
      simp [Goal, FnEnd, h_4, h_5]
    · try simp at h_5
      try simp [h_4, h_5]
      rcases cond_cases hp with ⟨h_6, hp⟩ | ⟨h_6, hp⟩
      · try simp at h_6
        cases hp
        simp [Goal, FnEnd, h_4, h_5, h_6]
      · try simp at h_6
        obtain ⟨y_7, h_8, hp⟩ := bind_some hp
        have c_9 := C60_eq h_8
        simp at c_9
        try simp [h_4, h_5, h_6, c_9]
        rcases cond_cases hp with ⟨h_10, hp⟩ | ⟨h_10, hp⟩
        · try simp at h_10
          obtain ⟨y_11, h_12, hp⟩ := bind_some hp
          have c_13 := C61_eq h_12
          simp at c_13
          try simp [h_4, h_5, h_6, h_10, c_13]
          rcases cond_cases hp with ⟨h_14, hp⟩ | ⟨h_14, hp⟩
          · try simp at h_14
            cases hp
            simp [Goal, FnEnd, h_4, h_5, h_6, h_10, h_14]
          · try simp at h_14
            obtain ⟨y_15, h_16, hp⟩ := bind_some hp
            have c_17 := C62_eq h_16
            simp at c_17
            try simp [h_4, h_5, h_6, h_10, h_14, c_17]
            obtain ⟨r_37, h_38, hp⟩ := bind_some hp
            obtain ⟨I_20, I_20_⟩ : ∃ I : Int → St → Prop, I = (fun (s_18 : Int) (σ : St) => σ.env 3 = .one (.ptr (1, 3) 0) ∧ σ.env 5 = .one (.l .own y_15.length (encL y_15)) ∧ σ.env 35 = .one (.l .bor y_15.length (encL y_15)) ∧ σ.env 36 = .one (.s (.int .i64 (y_15.length : Int))) ∧ σ.env 37 = .one (.s (.int .i64 s_18)) ∧ σ.mem (1, 3) = some [(.l .shr h_.vars.length (encL h_.vars)), (.l .shr h_.next.length (encL h_.next))] ∧ NoBox [(1, 3)] σ.mem) := ⟨_, rfl⟩
            obtain ⟨X_21, X_21_⟩ : ∃ X : ((Unit) ⊕ (Unit)) → Out → Prop, X = (fun (r_37 : (Unit) ⊕ (Unit)) (out : Out) => Sum.elim (fun r_37 => ∃ σ : St, out = .ret σ ∧ σ.env 4 = .one (.s (.bool false)) ∧ σ.mem (1, 3) = some [(.l .shr h_.vars.length (encL h_.vars)), (.l .shr h_.next.length (encL h_.next))] ∧ NoBox [(1, 3)] σ.mem) (fun r_37 => ∃ σ : St, out = .exit 0 σ ∧ σ.env 3 = .one (.ptr (1, 3) 0) ∧ σ.env 5 = .one (.l .own y_15.length (encL y_15)) ∧ σ.mem (1, 3) = some [(.l .shr h_.vars.length (encL h_.vars)), (.l .shr h_.next.length (encL h_.next))] ∧ NoBox [(1, 3)] σ.mem) r_37) := ⟨_, rfl⟩
            refine loopP ({ hd := [3, 5, 35, 36, 37], bx := [], ex := [3, 5], rt := [4] }) I_20 X_21 h_38 (by exact rfl) ?_ ?_ ?_
            · rw [I_20_]
              refine ⟨?_, ?_, ?_, ?_, ?_, ?_, NoBox.restrict (by intro k hk hb; simp at hk hb; simp [hk, hb, h_4, h_5, h_6, h_10, h_14])⟩ <;> simp [restrict_env, restrict_mem, h_4, h_5, h_6, h_10, h_14]
            · intro s_18 σ_22 a_19 hI hp
              rw [I_20_] at hI
              obtain ⟨q_23, q_24, q_25, q_26, q_27, q_28, hn_29⟩ := hI
              try simp [h_4, h_5, h_6, h_10, h_14, q_23, q_24, q_25, q_26, q_27, q_28]
              rcases cond_cases hp with ⟨h_30, hp⟩ | ⟨h_30, hp⟩
              · try simp at h_30
                obtain ⟨e_31, h_32, hp⟩ := bind_some hp
                have b_33 := at_lo h_32
                have b_34 := at_hi h_32
                try simp at b_33
                try simp at b_34
                have c_35 := seg_at' h_32 0 1 (by decide) (ds := [.sc (.int .i64 e_31)]) rfl
                try simp at c_35
                try simp [h_4, h_5, h_6, h_10, h_14, q_23, q_24, q_25, q_26, q_27, q_28, h_30, b_33, b_34, c_35]
                rcases cond_cases hp with ⟨h_36, hp⟩ | ⟨h_36, hp⟩
                · try simp at h_36
                  cases hp
                  try simp [h_4, h_5, h_6, h_10, h_14, q_23, q_24, q_25, q_26, q_27, q_28, h_30, h_36]
                  refine goal_outR ?_
                  rw [X_21_]
                  refine ⟨_, rfl, ?_, ?_, NoBox.restrict (by intro k hk hb; simp at hk hb; simp [hk, hb, h_4, h_5, h_6, h_10, h_14, q_23, q_24, q_25, q_26, q_27, q_28, h_30, h_36, hn_29 k (by simp [hk, hb])])⟩ <;> simp [restrict_env, restrict_mem, h_4, h_5, h_6, h_10, h_14, q_23, q_24, q_25, q_26, q_27, q_28, h_30, h_36]
                · try simp at h_36
                  cases hp
                  try simp [h_4, h_5, h_6, h_10, h_14, q_23, q_24, q_25, q_26, q_27, q_28, h_30, h_36]
                  refine goal_next ?_
                  rw [I_20_]
                  refine ⟨?_, ?_, ?_, ?_, ?_, ?_, NoBox.restrict (by intro k hk hb; simp at hk hb; simp [hk, hb, h_4, h_5, h_6, h_10, h_14, q_23, q_24, q_25, q_26, q_27, q_28, h_30, h_36, hn_29 k (by simp [hk, hb])])⟩ <;> simp [restrict_env, restrict_mem, h_4, h_5, h_6, h_10, h_14, q_23, q_24, q_25, q_26, q_27, q_28, h_30, h_36]
              · try simp at h_30
                cases hp
                try simp [h_4, h_5, h_6, h_10, h_14, q_23, q_24, q_25, q_26, q_27, q_28, h_30]
                refine goal_outX ?_
                rw [X_21_]
                refine ⟨_, rfl, ?_, ?_, ?_, NoBox.restrict (by intro k hk hb; simp at hk hb; simp [hk, hb, h_4, h_5, h_6, h_10, h_14, q_23, q_24, q_25, q_26, q_27, q_28, h_30, hn_29 k (by simp [hk, hb])])⟩ <;> simp [restrict_env, restrict_mem, h_4, h_5, h_6, h_10, h_14, q_23, q_24, q_25, q_26, q_27, q_28, h_30]
            · intro out hX
              rw [X_21_] at hX
              rcases r_37 with r_37 | r_37
              · simp only [Sum.elim_inl, Sum.elim_inr] at hX hp
                obtain ⟨σ_39, rfl, q_40, q_41, hn_42⟩ := hX
                cases hp
                simp [Goal, FnEnd, h_4, h_5, h_6, h_10, h_14, q_40, q_41]
              · simp only [Sum.elim_inl, Sum.elim_inr] at hX hp
                obtain ⟨σ_43, rfl, q_44, q_45, q_46, hn_47⟩ := hX
                cases hp
                simp [Goal, FnEnd, h_4, h_5, h_6, h_10, h_14, q_44, q_45, q_46]
        · try simp at h_10
          cases hp
          simp [Goal, FnEnd, h_4, h_5, h_6, h_10]
  · try simp at h_4
    cases hp
    simp [Goal, FnEnd, h_4]
theorem pc36 : PC Try.prog 36 C36 := pc_of (g := g36) (ctxOK_of [(38, C38), (60, C60), (61, C61), (62, C62)] rfl ⟨pc38, pc60, pc61, pc62, trivial⟩) ⟨Try.f36, Try.func36, by kernel_rfl, by kernel_rfl⟩ fun x y h => w36 h

noncomputable def C37 : List AV → Option AV := specP (X := THeap × Unit) fun x => impl_Heap_own x.1
theorem C37_eq {h_} {y} (h : impl_Heap_own h_ = some y) : C37 [av .shr h_] = some (Res.res y) := specP_eq (X := THeap × Unit) (F := fun x => impl_Heap_own x.1) (x := (h_, ())) h
noncomputable def g37 : Cfg := { P := Try.prog, take := [], keep := [], gho := [], ctx := [(63, C63)] }
@[simp] theorem g37_P : g37.P = Try.prog := rfl
@[simp] theorem g37_t : g37.take = [] := rfl
@[simp] theorem g37_g : g37.gho = [] := rfl
@[simp] theorem g37_r : g37.ro = [] := rfl
@[simp] theorem g37_w : g37.away = [] ∧ g37.give = [] ∧ g37.octx = [] := by rw [g37]; exact ⟨rfl, rfl, rfl⟩
@[simp] theorem g37_63 : lookN 63 g37.ctx = some C63 := rfl
set_option maxHeartbeats 4000000 in
set_option maxRecDepth 100000 in
theorem w37 {h_} {y} (hp : impl_Heap_own h_ = some y) : ∃ m, callo g37 0 37 [av .shr h_] mem0 = some (Res.res y, m) := by
  refine start_fn (Try.f37.body.getD .skip) [.cell 2 38] rfl rfl Try.func37 (by kernel_rfl) (by kernel_rfl) (by simp [Try.ntmps37]) rfl ?_
  unfold impl_Heap_own at hp
  obtain ⟨y_1, h_2, hp⟩ := bind_some hp
  have c_3 := C63_eq h_2
  simp at c_3
  obtain ⟨y_4, h_5, hp⟩ := bind_some hp
  have c_6 := C63_eq h_5
  simp at c_6
  cases hp
  simp [Try.f37, Goal, FnEnd, retR, rsrc, RSrc.val, nodupR, nodup, tupPart, c_3, c_6]
theorem pc37 : PC Try.prog 37 C37 := pc_of (g := g37) (ctxOK_of [(63, C63)] rfl ⟨pc63, trivial⟩) ⟨Try.f37, Try.func37, by kernel_rfl, by kernel_rfl⟩ fun x y h => w37 h

noncomputable def C65 : List AV → Option AV := specP (X := THeap × (List ByteArray) × ByteArray × Unit) fun x => impl_Heap_at x.1 x.2.1 x.2.2.1
theorem C65_eq {h_ vars name} {y} (h : impl_Heap_at h_ vars name = some y) : C65 [av .shr h_, av .shr vars, av .shr name] = some (Res.res y) := specP_eq (X := THeap × (List ByteArray) × ByteArray × Unit) (F := fun x => impl_Heap_at x.1 x.2.1 x.2.2.1) (x := (h_, vars, name, ())) h
noncomputable def g65 : Cfg := { P := Try.prog, take := [], keep := [], gho := [], ctx := [(64, C64)] }
@[simp] theorem g65_P : g65.P = Try.prog := rfl
@[simp] theorem g65_t : g65.take = [] := rfl
@[simp] theorem g65_g : g65.gho = [] := rfl
@[simp] theorem g65_r : g65.ro = [] := rfl
@[simp] theorem g65_w : g65.away = [] ∧ g65.give = [] ∧ g65.octx = [] := by rw [g65]; exact ⟨rfl, rfl, rfl⟩
@[simp] theorem g65_64 : lookN 64 g65.ctx = some C64 := rfl
set_option maxHeartbeats 4000000 in
set_option maxRecDepth 100000 in
theorem w65 {h_ vars name} {y} (hp : impl_Heap_at h_ vars name = some y) : ∃ m, callo g65 0 65 [av .shr h_, av .shr vars, av .shr name] mem0 = some (Res.res y, m) := by
  refine start_fn (Try.f65.body.getD .skip) [.tmp 6] rfl rfl Try.func65 (by kernel_rfl) (by kernel_rfl) (by simp [Try.ntmps65]) rfl ?_
  unfold impl_Heap_at at hp
  obtain ⟨y_1, h_2, hp⟩ := bind_some hp
  have c_3 := C64_eq h_2
  simp at c_3
  simp [Try.f65, c_3]
  rcases cond_cases hp with ⟨h_4, hp⟩ | ⟨h_4, hp⟩
  · try simp at h_4
    obtain ⟨e_5, h_6, hp⟩ := bind_some hp
    have b_7 := at_lo h_6
    have b_8 := at_hi h_6
    try simp at b_7
    try simp at b_8
    have c_9 := seg_at' h_6 0 1 (by decide) (ds := [.sc (.int .i64 e_5)]) rfl
    try simp at c_9
    cases hp
    simp [Goal, FnEnd, h_4, b_7, b_8, c_9]
  · try simp at h_4
    cases hp
    simp [Goal, FnEnd, h_4]
theorem pc65 : PC Try.prog 65 C65 := pc_of (g := g65) (ctxOK_of [(64, C64)] rfl ⟨pc64, trivial⟩) ⟨Try.f65, Try.func65, by kernel_rfl, by kernel_rfl⟩ fun x y h => w65 h

noncomputable def C66 : List AV → Option AV := specP (X := Int × Int × Int × Unit) fun x => impl_needs x.1 x.2.1 x.2.2.1
theorem C66_eq {kind a_ b_} {y} (h : impl_needs kind a_ b_ = some y) : C66 [av .shr kind, av .shr a_, av .shr b_] = some (Res.res y) := specP_eq (X := Int × Int × Int × Unit) (F := fun x => impl_needs x.1 x.2.1 x.2.2.1) (x := (kind, a_, b_, ())) h
noncomputable def g66 : Cfg := { P := Try.prog, take := [], keep := [], gho := [], ctx := [] }
@[simp] theorem g66_P : g66.P = Try.prog := rfl
@[simp] theorem g66_t : g66.take = [] := rfl
@[simp] theorem g66_g : g66.gho = [] := rfl
@[simp] theorem g66_r : g66.ro = [] := rfl
@[simp] theorem g66_w : g66.away = [] ∧ g66.give = [] ∧ g66.octx = [] := by rw [g66]; exact ⟨rfl, rfl, rfl⟩
set_option maxHeartbeats 4000000 in
set_option maxRecDepth 100000 in
theorem w66 {kind a_ b_} {y} (hp : impl_needs kind a_ b_ = some y) : ∃ m, callo g66 0 66 [av .shr kind, av .shr a_, av .shr b_] mem0 = some (Res.res y, m) := by
  refine start_fn (Try.f66.body.getD .skip) [.tmp 6, .tmp 7] rfl rfl Try.func66 (by kernel_rfl) (by kernel_rfl) (by simp [Try.ntmps66]) rfl ?_
  unfold impl_needs at hp
  simp [Try.f66]
  rcases cond_cases hp with ⟨h_1, hp⟩ | ⟨h_1, hp⟩
  · try simp at h_1
    cases hp
    simp [Goal, FnEnd, retR, rsrc, RSrc.val, nodupR, nodup, tupPart, h_1]
  · try simp at h_1
    try simp [h_1]
    rcases cond_cases hp with ⟨h_2, hp⟩ | ⟨h_2, hp⟩
    · try simp at h_2
      cases hp
      simp [Goal, FnEnd, retR, rsrc, RSrc.val, nodupR, nodup, tupPart, h_1, h_2]
    · try simp at h_2
      try simp [h_1, h_2]
      rcases cond_cases hp with ⟨h_3, hp⟩ | ⟨h_3, hp⟩
      · try simp at h_3
        cases hp
        simp [Goal, FnEnd, retR, rsrc, RSrc.val, nodupR, nodup, tupPart, h_1, h_2, h_3]
      · try simp at h_3
        try simp [h_1, h_2, h_3]
        rcases cond_cases hp with ⟨h_4, hp⟩ | ⟨h_4, hp⟩
        · try simp at h_4
          cases hp
          simp [Goal, FnEnd, retR, rsrc, RSrc.val, nodupR, nodup, tupPart, h_1, h_2, h_3, h_4]
        · try simp at h_4
          cases hp
          simp [Goal, FnEnd, retR, rsrc, RSrc.val, nodupR, nodup, tupPart, h_1, h_2, h_3, h_4]
theorem pc66 : PC Try.prog 66 C66 := pc_of (g := g66) (ctxOK_of [] rfl trivial) ⟨Try.f66, Try.func66, by kernel_rfl, by kernel_rfl⟩ fun x y h => w66 h

noncomputable def C67 : List AV → Option AV := specP (X := TStmt × Unit) fun x => impl_IsTest x.1
theorem C67_eq {s} {y} (h : impl_IsTest s = some y) : C67 [av .shr s] = some (Res.res y) := specP_eq (X := TStmt × Unit) (F := fun x => impl_IsTest x.1) (x := (s, ())) h
noncomputable def g67 : Cfg := { P := Try.prog, take := [], keep := [], gho := [], ctx := [(38, C38)] }
@[simp] theorem g67_P : g67.P = Try.prog := rfl
@[simp] theorem g67_t : g67.take = [] := rfl
@[simp] theorem g67_g : g67.gho = [] := rfl
@[simp] theorem g67_r : g67.ro = [] := rfl
@[simp] theorem g67_w : g67.away = [] ∧ g67.give = [] ∧ g67.octx = [] := by rw [g67]; exact ⟨rfl, rfl, rfl⟩
@[simp] theorem g67_38 : lookN 38 g67.ctx = some C38 := rfl
set_option maxHeartbeats 4000000 in
set_option maxRecDepth 100000 in
theorem w67 {s} {y} (hp : impl_IsTest s = some y) : ∃ m, callo g67 0 67 [av .shr s] mem0 = some (Res.res y, m) := by
  refine start_fn (Try.f67.body.getD .skip) [.tmp 2] rfl rfl Try.func67 (by kernel_rfl) (by kernel_rfl) (by simp [Try.ntmps67]) rfl ?_
  unfold impl_IsTest at hp
  obtain ⟨y_1, h_2, hp⟩ := bind_some hp
  have c_3 := C38_eq h_2
  simp at c_3
  cases hp
  simp [Try.f67, Goal, FnEnd, c_3]
theorem pc67 : PC Try.prog 67 C67 := pc_of (g := g67) (ctxOK_of [(38, C38)] rfl ⟨pc38, trivial⟩) ⟨Try.f67, Try.func67, by kernel_rfl, by kernel_rfl⟩ fun x y h => w67 h

noncomputable def C68 : List AV → Option AV := specP (X := Int × Int × Int × Unit) fun x => impl_holds x.1 x.2.1 x.2.2.1
theorem C68_eq {kind a_ b_} {y} (h : impl_holds kind a_ b_ = some y) : C68 [av .shr kind, av .shr a_, av .shr b_] = some (Res.res y) := specP_eq (X := Int × Int × Int × Unit) (F := fun x => impl_holds x.1 x.2.1 x.2.2.1) (x := (kind, a_, b_, ())) h
noncomputable def g68 : Cfg := { P := Try.prog, take := [], keep := [], gho := [], ctx := [] }
@[simp] theorem g68_P : g68.P = Try.prog := rfl
@[simp] theorem g68_t : g68.take = [] := rfl
@[simp] theorem g68_g : g68.gho = [] := rfl
@[simp] theorem g68_r : g68.ro = [] := rfl
@[simp] theorem g68_w : g68.away = [] ∧ g68.give = [] ∧ g68.octx = [] := by rw [g68]; exact ⟨rfl, rfl, rfl⟩
set_option maxHeartbeats 4000000 in
set_option maxRecDepth 100000 in
theorem w68 {kind a_ b_} {y} (hp : impl_holds kind a_ b_ = some y) : ∃ m, callo g68 0 68 [av .shr kind, av .shr a_, av .shr b_] mem0 = some (Res.res y, m) := by
  refine start_fn (Try.f68.body.getD .skip) [.tmp 6] rfl rfl Try.func68 (by kernel_rfl) (by kernel_rfl) (by simp [Try.ntmps68]) rfl ?_
  unfold impl_holds at hp
  simp [Try.f68]
  rcases cond_cases hp with ⟨h_1, hp⟩ | ⟨h_1, hp⟩
  · try simp at h_1
    cases hp
    simp [Goal, FnEnd, h_1]
  · try simp at h_1
    try simp [h_1]
    rcases cond_cases hp with ⟨h_2, hp⟩ | ⟨h_2, hp⟩
    · try simp at h_2
      cases hp
      simp [Goal, FnEnd, h_1, h_2]
    · try simp at h_2
      try simp [h_1, h_2]
      rcases cond_cases hp with ⟨h_3, hp⟩ | ⟨h_3, hp⟩
      · try simp at h_3
        cases hp
        simp [Goal, FnEnd, h_1, h_2, h_3]
      · try simp at h_3
        cases hp
        simp [Goal, FnEnd, h_1, h_2, h_3]
theorem pc68 : PC Try.prog 68 C68 := pc_of (g := g68) (ctxOK_of [] rfl trivial) ⟨Try.f68, Try.func68, by kernel_rfl, by kernel_rfl⟩ fun x y h => w68 h

noncomputable def C69 : List AV → Option AV := specP (X := (List Int) × Int × Unit) fun x => impl_Positions x.1 x.2.1
theorem C69_eq {list n_} {y} (h : impl_Positions list n_ = some y) : C69 [av .shr list, av .shr n_] = some (Res.res y) := specP_eq (X := (List Int) × Int × Unit) (F := fun x => impl_Positions x.1 x.2.1) (x := (list, n_, ())) h
noncomputable def g69 : Cfg := { P := Try.prog, take := [(69, 19), (69, 24)], keep := [((69, 3), { hd := [1, 5, 9, 10, 11], bx := [], ex := [5], rt := [4] })], gho := [], ctx := [] }
@[simp] theorem g69_P : g69.P = Try.prog := rfl
@[simp] theorem g69_t : g69.take = [(69, 19), (69, 24)] := rfl
@[simp] theorem g69_g : g69.gho = [] := rfl
@[simp] theorem g69_r : g69.ro = [] := rfl
@[simp] theorem g69_w : g69.away = [] ∧ g69.give = [] ∧ g69.octx = [] := by rw [g69]; exact ⟨rfl, rfl, rfl⟩
set_option maxHeartbeats 4000000 in
set_option maxRecDepth 100000 in
theorem w69 {list n_} {y} (hp : impl_Positions list n_ = some y) : ∃ m, callo g69 0 69 [av .shr list, av .shr n_] mem0 = some (Res.res y, m) := by
  refine start_fn (Try.f69.body.getD .skip) [.tmp 4] rfl rfl Try.func69 (by kernel_rfl) (by kernel_rfl) (by simp [Try.ntmps69]) rfl ?_
  unfold impl_Positions at hp
  simp [Try.f69]
  obtain ⟨r_21, h_22, hp⟩ := bind_some hp
  obtain ⟨I_3, I_3_⟩ : ∃ I : (List Int) × Int → St → Prop, I = (fun (s_1 : (List Int) × Int) (σ : St) => σ.env 1 = .one (.s (.int .i64 n_)) ∧ σ.env 5 = .one (.l .own s_1.1.length (encL s_1.1)) ∧ σ.env 9 = .one (.l .shr list.length (encL list)) ∧ σ.env 10 = .one (.s (.int .i64 (list.length : Int))) ∧ σ.env 11 = .one (.s (.int .i64 s_1.2)) ∧ σ.mem = mem0) := ⟨_, rfl⟩
  obtain ⟨X_4, X_4_⟩ : ∃ X : (List Int) → Out → Prop, X = (fun (r_21 : (List Int)) (out : Out) => ∃ σ : St, out = .exit 0 σ ∧ σ.env 5 = .one (.l .own r_21.length (encL r_21)) ∧ σ.mem = mem0) := ⟨_, rfl⟩
  refine loopP ({ hd := [1, 5, 9, 10, 11], bx := [], ex := [5], rt := [4] }) I_3 X_4 h_22 (by exact rfl) ?_ ?_ ?_
  · rw [I_3_]
    refine ⟨?_, ?_, ?_, ?_, ?_, ?_⟩ <;> simp [restrict_env, restrict_mem]
  · intro s_1 σ_5 a_2 hI hp
    rw [I_3_] at hI
    obtain ⟨q_6, q_7, q_8, q_9, q_10, q_11⟩ := hI
    try simp [q_6, q_7, q_8, q_9, q_10, q_11]
    rcases cond_cases hp with ⟨h_12, hp⟩ | ⟨h_12, hp⟩
    · try simp at h_12
      obtain ⟨e_13, h_14, hp⟩ := bind_some hp
      have b_15 := at_lo h_14
      have b_16 := at_hi h_14
      try simp at b_15
      try simp at b_16
      have c_17 := seg_at' h_14 0 1 (by decide) (ds := [.sc (.int .i64 e_13)]) rfl
      try simp at c_17
      try simp [q_6, q_7, q_8, q_9, q_10, q_11, h_12, b_15, b_16, c_17]
      rcases cond_cases hp with ⟨h_18, hp⟩ | ⟨h_18, hp⟩
      · try simp at h_18
        obtain ⟨_, h_19, hp⟩ := bind_some hp
        have b_20 := room_ok h_19
        try simp at b_20
        cases hp
        try simp [q_6, q_7, q_8, q_9, q_10, q_11, h_12, h_18, b_20]
        refine goal_next ?_
        rw [I_3_]
        refine ⟨?_, ?_, ?_, ?_, ?_, ?_⟩ <;> simp [restrict_env, restrict_mem, q_6, q_7, q_8, q_9, q_10, q_11, h_12, h_18, b_20]
      · try simp at h_18
        cases hp
        try simp [q_6, q_7, q_8, q_9, q_10, q_11, h_12, h_18]
        refine goal_next ?_
        rw [I_3_]
        refine ⟨?_, ?_, ?_, ?_, ?_, ?_⟩ <;> simp [restrict_env, restrict_mem, q_6, q_7, q_8, q_9, q_10, q_11, h_12, h_18]
    · try simp at h_12
      cases hp
      try simp [q_6, q_7, q_8, q_9, q_10, q_11, h_12]
      refine goal_outX ?_
      rw [X_4_]
      refine ⟨_, rfl, ?_, ?_⟩ <;> simp [restrict_env, restrict_mem, q_6, q_7, q_8, q_9, q_10, q_11, h_12]
  · intro out hX
    rw [X_4_] at hX
    obtain ⟨σ_23, rfl, q_24, q_25⟩ := hX
    cases hp
    simp [Goal, FnEnd, q_24, q_25]
theorem pc69 : PC Try.prog 69 C69 := pc_of (g := g69) (ctxOK_of [] rfl trivial) ⟨Try.f69, Try.func69, by kernel_rfl, by kernel_rfl⟩ fun x y h => w69 h

abbrev G72 (g : Cfg) : Prop := Has Try.prog g 72 Try.f72 [37, 78, 81] [] [(63, C63)] [(4, [.thaw (.at 11 0) 1176 1]), (6, [.thaw (.at 11 0) 1176 1]), (9, [.thaw (.at 11 0) 1176 1]), (11, [.thaw (.at 11 0) 1176 1]), (13, [.thaw (.at 11 1) 1177 1]), (15, [.thaw (.at 11 1) 1177 1]), (17, [.thaw (.at 11 0) 1176 1]), (2000004, [.frz (.at 11 0)]), (2000006, [.frz (.at 11 0)]), (2000009, [.frz (.at 11 0)]), (2000011, [.frz (.at 11 0)]), (2000013, [.frz (.at 11 1)]), (2000015, [.frz (.at 11 1)]), (2000017, [.frz (.at 11 0)])] [80] [(93, some C93)]
set_option maxHeartbeats 4000000 in
set_option maxRecDepth 100000 in
theorem wI72 {g : Cfg} (G : G72 g) {d : Nat} {mem : Mem} (hT : Tight d mem) (hB : ∀ x, (mem x).map (List.map C.killB) = mem x)  {h_ : THeap} {s : TStmt} {own : Int} {a_ : Int} {b_ : Int}  {y} (hp : impl_Heap_performed h_ s own a_ b_ = some y) : ∃ r, callo g d 72 [av .shr h_, av .shr s, av .shr own, av .shr a_, av .shr b_] mem = some (r, mem) ∧ ∃ me_0 : Md, r = av me_0 y := by
  have gP := G.P; have gt := G.tk; have gr := G.ro; have gg := G.gh
  have o_93 := G.oc (93, some C93) (by simp)
  have c_63 := G.cs (63, C63) (by simp)
  have hT2 : memKill (fun k => decide (d < k.1)) mem = mem := hT
  have hm0 : ∀ t, mem (d + 1, t) = none := fun t => hT.none (by simp)
  refine start_ex (Try.f72.body.getD .skip) [.cell 10 38] G Try.func72 (by kernel_rfl) (by simp [Try.ntmps72]) rfl ?_
  unfold impl_Heap_performed at hp
  obtain ⟨y_1, h_2, hp⟩ := bind_some hp
  have c_3 := C63_eq h_2
  simp at c_3
  obtain ⟨y_4, h_5, hp⟩ := bind_some hp
  have c_6 := C63_eq h_5
  simp at c_6
  simp [Try.f72, gP, gt, gr, gg, hm0, c_63, o_93, hB, c_3, c_6]
  rcases cond_cases hp with ⟨h_7, hp⟩ | ⟨h_7, hp⟩
  · try simp at h_7
    try simp [gP, gt, gr, gg, hm0, c_63, o_93, hB, h_7]
    obtain ⟨e_8, h_9, hp⟩ := bind_some hp
    have b_10 := at_lo h_9
    have b_11 := at_hi h_9
    try simp at b_10
    try simp at b_11
    have c_12 := splice_row h_9 0 (-1) [(.s (.int .i64 (-1)))] (by simp) rfl
    try simp at c_12
    have l_13 := row_room h_9 0 (m := 1) (by decide)
    try simp at l_13
    cases hp
    simp [Goal, FnEndE, memKill_hi, retR, rsrc, RSrc.val, nodupR, nodup, tupPart, gP, gt, gr, gg, hm0, c_63, o_93, hB, h_7, b_10, b_11, c_12, l_13, hT2]
    all_goals (refine ⟨_, ⟨rfl, kill_back ?_ hT⟩, _, rfl⟩; repeat (first | exact fun k hk => rfl | refine Agree.upd ?_ (by simp) | refine Agree.killK hT ?_ (by simp) | refine Agree.killB hB ?_ | refine Agree.mapK hT ?_ (by simp) | refine Agree.ite ?_ (by simp)))
  · try simp at h_7
    try simp [gP, gt, gr, gg, hm0, c_63, o_93, hB, h_7]
    rcases cond_cases hp with ⟨h_14, hp⟩ | ⟨h_14, hp⟩
    · try simp at h_14
      try simp [gP, gt, gr, gg, hm0, c_63, o_93, hB, h_7, h_14]
      obtain ⟨e_15, h_16, hp⟩ := bind_some hp
      have b_17 := at_lo h_16
      have b_18 := at_hi h_16
      try simp at b_17
      try simp at b_18
      have c_19 := splice_row h_16 0 (y_4.length : Int) [(.s (.int .i64 (y_4.length : Int)))] (by simp) rfl
      try simp at c_19
      have l_20 := row_room h_16 0 (m := 1) (by decide)
      try simp at l_20
      obtain ⟨_, h_21, hp⟩ := bind_some hp
      have b_22 := room_ok h_21
      try simp at b_22
      cases hp
      simp [Goal, FnEndE, memKill_hi, retR, rsrc, RSrc.val, nodupR, nodup, tupPart, gP, gt, gr, gg, hm0, c_63, o_93, hB, h_7, h_14, b_17, b_18, c_19, l_20, b_22, hT2]
      all_goals (refine ⟨_, ⟨rfl, kill_back ?_ hT⟩, _, rfl⟩; repeat (first | exact fun k hk => rfl | refine Agree.upd ?_ (by simp) | refine Agree.killK hT ?_ (by simp) | refine Agree.killB hB ?_ | refine Agree.mapK hT ?_ (by simp) | refine Agree.ite ?_ (by simp)))
    · try simp at h_14
      try simp [gP, gt, gr, gg, hm0, c_63, o_93, hB, h_7, h_14]
      rcases cond_cases hp with ⟨h_23, hp⟩ | ⟨h_23, hp⟩
      · try simp at h_23
        try simp [gP, gt, gr, gg, hm0, c_63, o_93, hB, h_7, h_14, h_23]
        obtain ⟨e_24, h_25, hp⟩ := bind_some hp
        have b_26 := at_lo h_25
        have b_27 := at_hi h_25
        try simp at b_26
        try simp at b_27
        have c_28 := splice_row h_25 0 b_ [(.s (.int .i64 b_))] (by simp) rfl
        try simp at c_28
        have l_29 := row_room h_25 0 (m := 1) (by decide)
        try simp at l_29
        cases hp
        simp [Goal, FnEndE, memKill_hi, retR, rsrc, RSrc.val, nodupR, nodup, tupPart, gP, gt, gr, gg, hm0, c_63, o_93, hB, h_7, h_14, h_23, b_26, b_27, c_28, l_29, hT2]
        all_goals (refine ⟨_, ⟨rfl, kill_back ?_ hT⟩, _, rfl⟩; repeat (first | exact fun k hk => rfl | refine Agree.upd ?_ (by simp) | refine Agree.killK hT ?_ (by simp) | refine Agree.killB hB ?_ | refine Agree.mapK hT ?_ (by simp) | refine Agree.ite ?_ (by simp)))
      · try simp at h_23
        try simp [gP, gt, gr, gg, hm0, c_63, o_93, hB, h_7, h_14, h_23]
        rcases cond_cases hp with ⟨h_30, hp⟩ | ⟨h_30, hp⟩
        · try simp at h_30
          try simp [gP, gt, gr, gg, hm0, c_63, o_93, hB, h_7, h_14, h_23, h_30]
          obtain ⟨e_31, h_32, hp⟩ := bind_some hp
          have b_33 := at_lo h_32
          have b_34 := at_hi h_32
          try simp at b_33
          try simp at b_34
          have c_35 := seg_at' h_32 0 1 (by decide) (ds := [.sc (.int .i64 e_31)]) rfl
          try simp at c_35
          obtain ⟨e_36, h_37, hp⟩ := bind_some hp
          have b_38 := at_lo h_37
          have b_39 := at_hi h_37
          try simp at b_38
          try simp at b_39
          have c_40 := splice_row h_37 0 e_31 [(.s (.int .i64 e_31))] (by simp) rfl
          try simp at c_40
          have l_41 := row_room h_37 0 (m := 1) (by decide)
          try simp at l_41
          cases hp
          simp [Goal, FnEndE, memKill_hi, retR, rsrc, RSrc.val, nodupR, nodup, tupPart, gP, gt, gr, gg, hm0, c_63, o_93, hB, h_7, h_14, h_23, h_30, b_33, b_34, c_35, b_38, b_39, c_40, l_41, hT2]
          all_goals (refine ⟨_, ⟨rfl, kill_back ?_ hT⟩, _, rfl⟩; repeat (first | exact fun k hk => rfl | refine Agree.upd ?_ (by simp) | refine Agree.killK hT ?_ (by simp) | refine Agree.killB hB ?_ | refine Agree.mapK hT ?_ (by simp) | refine Agree.ite ?_ (by simp)))
        · try simp at h_30
          try simp [gP, gt, gr, gg, hm0, c_63, o_93, hB, h_7, h_14, h_23, h_30]
          rcases cond_cases hp with ⟨h_42, hp⟩ | ⟨h_42, hp⟩
          · try simp at h_42
            try simp [gP, gt, gr, gg, hm0, c_63, o_93, hB, h_7, h_14, h_23, h_30, h_42]
            obtain ⟨e_43, h_44, hp⟩ := bind_some hp
            have b_45 := at_lo h_44
            have b_46 := at_hi h_44
            try simp at b_45
            try simp at b_46
            have c_47 := splice_row h_44 0 (-1) [(.s (.int .i64 (-1)))] (by simp) rfl
            try simp at c_47
            have l_48 := row_room h_44 0 (m := 1) (by decide)
            try simp at l_48
            cases hp
            simp [Goal, FnEndE, memKill_hi, retR, rsrc, RSrc.val, nodupR, nodup, tupPart, gP, gt, gr, gg, hm0, c_63, o_93, hB, h_7, h_14, h_23, h_30, h_42, b_45, b_46, c_47, l_48, hT2]
            all_goals (refine ⟨_, ⟨rfl, kill_back ?_ hT⟩, _, rfl⟩; repeat (first | exact fun k hk => rfl | refine Agree.upd ?_ (by simp) | refine Agree.killK hT ?_ (by simp) | refine Agree.killB hB ?_ | refine Agree.mapK hT ?_ (by simp) | refine Agree.ite ?_ (by simp)))
          · try simp at h_42
            try simp [gP, gt, gr, gg, hm0, c_63, o_93, hB, h_7, h_14, h_23, h_30, h_42]
            rcases cond_cases hp with ⟨h_49, hp⟩ | ⟨h_49, hp⟩
            · try simp at h_49
              try simp [gP, gt, gr, gg, hm0, c_63, o_93, hB, h_7, h_14, h_23, h_30, h_42, h_49]
              obtain ⟨e_50, h_51, hp⟩ := bind_some hp
              have b_52 := at_lo h_51
              have b_53 := at_hi h_51
              try simp at b_52
              try simp at b_53
              have c_54 := splice_row h_51 0 b_ [(.s (.int .i64 b_))] (by simp) rfl
              try simp at c_54
              have l_55 := row_room h_51 0 (m := 1) (by decide)
              try simp at l_55
              cases hp
              simp [Goal, FnEndE, memKill_hi, retR, rsrc, RSrc.val, nodupR, nodup, tupPart, gP, gt, gr, gg, hm0, c_63, o_93, hB, h_7, h_14, h_23, h_30, h_42, h_49, b_52, b_53, c_54, l_55, hT2]
              all_goals (refine ⟨_, ⟨rfl, kill_back ?_ hT⟩, _, rfl⟩; repeat (first | exact fun k hk => rfl | refine Agree.upd ?_ (by simp) | refine Agree.killK hT ?_ (by simp) | refine Agree.killB hB ?_ | refine Agree.mapK hT ?_ (by simp) | refine Agree.ite ?_ (by simp)))
            · try simp at h_49
              try simp [gP, gt, gr, gg, hm0, c_63, o_93, hB, h_7, h_14, h_23, h_30, h_42, h_49]
              rcases cond_cases hp with ⟨h_56, hp⟩ | ⟨h_56, hp⟩
              · try simp at h_56
                try simp [gP, gt, gr, gg, hm0, c_63, o_93, hB, h_7, h_14, h_23, h_30, h_42, h_49, h_56]
                obtain ⟨e_57, h_58, hp⟩ := bind_some hp
                have b_59 := at_lo h_58
                have b_60 := at_hi h_58
                try simp at b_59
                try simp at b_60
                have c_61 := splice_row h_58 0 (-1) [(.s (.int .i64 (-1)))] (by simp) rfl
                try simp at c_61
                have l_62 := row_room h_58 0 (m := 1) (by decide)
                try simp at l_62
                obtain ⟨y_65, h_66, hp⟩ := bind_some hp
                have c_67 := C93_eq h_66
                simp at c_67
                cases hp
                simp [Goal, FnEndE, memKill_hi, retR, rsrc, RSrc.val, nodupR, nodup, tupPart, gP, gt, gr, gg, hm0, c_63, o_93, hB, h_7, h_14, h_23, h_30, h_42, h_49, h_56, b_59, b_60, c_61, l_62, c_67, hT2]
                all_goals (refine ⟨_, ⟨rfl, kill_back ?_ hT⟩, _, rfl⟩; repeat (first | exact fun k hk => rfl | refine Agree.upd ?_ (by simp) | refine Agree.killK hT ?_ (by simp) | refine Agree.killB hB ?_ | refine Agree.mapK hT ?_ (by simp) | refine Agree.ite ?_ (by simp)))
              · try simp at h_56
                cases hp
                simp [Goal, FnEndE, memKill_hi, retR, rsrc, RSrc.val, nodupR, nodup, tupPart, gP, gt, gr, gg, hm0, c_63, o_93, hB, h_7, h_14, h_23, h_30, h_42, h_49, h_56, hT2]
                all_goals (refine ⟨_, ⟨rfl, kill_back ?_ hT⟩, _, rfl⟩; repeat (first | exact fun k hk => rfl | refine Agree.upd ?_ (by simp) | refine Agree.killK hT ?_ (by simp) | refine Agree.killB hB ?_ | refine Agree.mapK hT ?_ (by simp) | refine Agree.ite ?_ (by simp)))

noncomputable def C73 : List AV → Option AV := specP (X := THeap × Unit) fun x => impl_HasLeak x.1
theorem C73_eq {h_} {y} (h : impl_HasLeak h_ = some y) : C73 [av .shr h_] = some (Res.res y) := specP_eq (X := THeap × Unit) (F := fun x => impl_HasLeak x.1) (x := (h_, ())) h
noncomputable def g73 : Cfg := { P := Try.prog, take := [], keep := [], gho := [], ctx := [(62, C62)] }
@[simp] theorem g73_P : g73.P = Try.prog := rfl
@[simp] theorem g73_t : g73.take = [] := rfl
@[simp] theorem g73_g : g73.gho = [] := rfl
@[simp] theorem g73_r : g73.ro = [] := rfl
@[simp] theorem g73_w : g73.away = [] ∧ g73.give = [] ∧ g73.octx = [] := by rw [g73]; exact ⟨rfl, rfl, rfl⟩
@[simp] theorem g73_62 : lookN 62 g73.ctx = some C62 := rfl
set_option maxHeartbeats 4000000 in
set_option maxRecDepth 100000 in
theorem w73 {h_} {y} (hp : impl_HasLeak h_ = some y) : ∃ m, callo g73 0 73 [av .shr h_] mem0 = some (Res.res y, m) := by
  refine start_fn (Try.f73.body.getD .skip) [.tmp 2] rfl rfl Try.func73 (by kernel_rfl) (by kernel_rfl) (by simp [Try.ntmps73]) rfl ?_
  unfold impl_HasLeak at hp
  obtain ⟨y_1, h_2, hp⟩ := bind_some hp
  have c_3 := C62_eq h_2
  simp at c_3
  cases hp
  simp [Try.f73, Goal, FnEnd, c_3]
theorem pc73 : PC Try.prog 73 C73 := pc_of (g := g73) (ctxOK_of [(62, C62)] rfl ⟨pc62, trivial⟩) ⟨Try.f73, Try.func73, by kernel_rfl, by kernel_rfl⟩ fun x y h => w73 h

abbrev G94 (g : Cfg) : Prop := Has Try.prog g 94 Try.f94 [] [] [(92, C92)] []
set_option maxHeartbeats 4000000 in
set_option maxRecDepth 100000 in
theorem wI94 {g : Cfg} (G : G94 g) {d : Nat} {mem : Mem} (hT : Tight d mem) {K_1 : Key} {c : Int} {c0 : (List Int)} {mk_1 : Md} (hk_1 : K_1.1 ≤ d) (hb_1 : mem K_1 = some [(.l mk_1 c0.length (encL c0))]) {y} (hp : impl_CanonHeap_1 c c0 = some y) : callo g d 94 [av .shr c, .one (.ptr K_1 0)] mem = some (Res.res y, mem) := by
  have gP := G.P; have gt := G.tk; have gr := G.ro; have gg := G.gh
  have c_92 := G.cs (92, C92) (by simp)
  have hT2 : memKill (fun k => decide (d < k.1)) mem = mem := hT
  have nk_1 : ∀ t, (K_1 = (d + 1, t)) = False := fun t => by simp; intro h; rw [h] at hk_1; simp at hk_1; omega
  refine start_in (Try.f94.body.getD .skip) [.tmp 3] G Try.func94 (by kernel_rfl) (by simp [Try.ntmps94]) rfl ?_
  unfold impl_CanonHeap_1 at hp
  obtain ⟨y_1, h_2, hp⟩ := bind_some hp
  have c_3 := C92_eq h_2
  simp at c_3
  cases hp
  simp [Try.f94, Goal, FnEndI, memKill_hi, gP, gt, gr, gg, c_92, hb_1, nk_1, c_3, hT2]

noncomputable def C74 : List AV → Option AV := specP (X := THeap × Unit) fun x => impl_CanonHeap x.1
theorem C74_eq {h_} {y} (h : impl_CanonHeap h_ = some y) : C74 [av .shr h_] = some (Res.res y) := specP_eq (X := THeap × Unit) (F := fun x => impl_CanonHeap x.1) (x := (h_, ())) h
noncomputable def g74 : Cfg := { P := Try.prog, take := [(74, 26), (74, 41), (74, 53)], keep := [((74, 7), { hd := [1, 2, 3, 4, 5, 19, 20, 21], bx := [], ex := [1, 2, 3, 4, 5], rt := [2] }), ((74, 12), { hd := [1, 2, 4, 5, 34, 35, 36], bx := [], ex := [2, 5], rt := [2] })], gho := [], ctx := [(60, C60), (62, C62), (92, C92)], ro := [(74, 29), (74, 48)] }
@[simp] theorem g74_P : g74.P = Try.prog := rfl
@[simp] theorem g74_t : g74.take = [(74, 26), (74, 41), (74, 53)] := rfl
@[simp] theorem g74_g : g74.gho = [] := rfl
@[simp] theorem g74_r : g74.ro = [(74, 29), (74, 48)] := rfl
@[simp] theorem g74_w : g74.away = [] ∧ g74.give = [] ∧ g74.octx = [] := by rw [g74]; exact ⟨rfl, rfl, rfl⟩
@[simp] theorem g74_60 : lookN 60 g74.ctx = some C60 := rfl
@[simp] theorem g74_62 : lookN 62 g74.ctx = some C62 := rfl
@[simp] theorem g74_92 : lookN 92 g74.ctx = some C92 := rfl
@[simp] theorem g74_94 : lookN 94 g74.ctx = none := rfl
set_option maxHeartbeats 4000000 in
set_option maxRecDepth 100000 in
theorem w74 {h_} {y} (hp : impl_CanonHeap h_ = some y) : ∃ m, callo g74 0 74 [av .shr h_] mem0 = some (Res.res y, m) := by
  have G_94 : G94 g74 := ⟨rfl, by kernel_rfl, rfl, fun t => by simp, noAway (fun t => by simp) (by simp) (fun t => by simp), by simp [lookN], fun i => by simp [lookK], by simp [g74, lookK], by simp⟩
  refine start_fn (Try.f74.body.getD .skip) [.cell 2 38] rfl rfl Try.func74 (by kernel_rfl) (by kernel_rfl) (by simp [Try.ntmps74]) rfl ?_
  unfold impl_CanonHeap at hp
  obtain ⟨y_1, h_2, hp⟩ := bind_some hp
  have c_3 := C60_eq h_2
  simp at c_3
  simp [Try.f74, c_3]
  rcases cond_cases hp with ⟨h_4, hp⟩ | ⟨h_4, hp⟩
  · try simp at h_4
    obtain ⟨y_5, h_6, hp⟩ := bind_some hp
    have c_7 := C62_eq h_6
    simp at c_7
    try simp [h_4, c_7]
    obtain ⟨r_37, h_38, hp⟩ := bind_some hp
    obtain ⟨I_10, I_10_⟩ : ∃ I : Int × (List Int) → St → Prop, I = (fun (s_8 : Int × (List Int)) (σ : St) => σ.env 1 = .one (.ptr (1, 1) 0) ∧ σ.env 2 = .one (.ptr (1, 2) 0) ∧ σ.env 3 = .one (.ptr (1, 3) 0) ∧ σ.env 4 = .one (.fn 94 [((1, 3), 0)]) ∧ σ.env 5 = .one (.ptr (1, 5) 0) ∧ σ.env 19 = .one (.l .shr h_.vars.length (encL h_.vars)) ∧ σ.env 20 = .one (.s (.int .i64 (h_.vars.length : Int))) ∧ σ.env 21 = .one (.s (.int .i64 s_8.1)) ∧ σ.mem (1, 1) = some [(.l .shr h_.vars.length (encL h_.vars)), (.l .shr h_.next.length (encL h_.next))] ∧ σ.mem (1, 2) = some [(.l .own 0 []), (.l .own 0 [])] ∧ σ.mem (1, 3) = some [(.l .own y_5.length (encL y_5))] ∧ σ.mem (1, 5) = some [(.l .own s_8.2.length (encL s_8.2)), (.l .own 0 [])] ∧ Tight (1) σ.mem ∧ NoBox [(1, 1), (1, 2), (1, 3), (1, 5)] σ.mem) := ⟨_, rfl⟩
    obtain ⟨X_11, X_11_⟩ : ∃ X : (List Int) → Out → Prop, X = (fun (r_37 : (List Int)) (out : Out) => ∃ σ : St, out = .exit 0 σ ∧ σ.env 1 = .one (.ptr (1, 1) 0) ∧ σ.env 2 = .one (.ptr (1, 2) 0) ∧ σ.env 3 = .one (.ptr (1, 3) 0) ∧ σ.env 4 = .one (.fn 94 [((1, 3), 0)]) ∧ σ.env 5 = .one (.ptr (1, 5) 0) ∧ σ.mem (1, 1) = some [(.l .shr h_.vars.length (encL h_.vars)), (.l .shr h_.next.length (encL h_.next))] ∧ σ.mem (1, 2) = some [(.l .own 0 []), (.l .own 0 [])] ∧ σ.mem (1, 3) = some [(.l .own y_5.length (encL y_5))] ∧ σ.mem (1, 5) = some [(.l .own r_37.length (encL r_37)), (.l .own 0 [])] ∧ Tight (1) σ.mem ∧ NoBox [(1, 1), (1, 2), (1, 3), (1, 5)] σ.mem) := ⟨_, rfl⟩
    refine loopP ({ hd := [1, 2, 3, 4, 5, 19, 20, 21], bx := [], ex := [1, 2, 3, 4, 5], rt := [2] }) I_10 X_11 h_38 (by exact rfl) ?_ ?_ ?_
    · rw [I_10_]
      refine ⟨?_, ?_, ?_, ?_, ?_, ?_, ?_, ?_, ?_, ?_, ?_, ?_, (by repeat (first | exact tight_mem0 _ | exact hT.up | exact hT | refine Tight.restrict ?_ | refine Tight.upd ?_ (by simp) (by simp))), NoBox.restrict (by intro k hk hb; simp at hk hb; simp [hk, hb, h_4])⟩ <;> simp [restrict_env, restrict_mem, h_4]
    · intro s_8 σ_12 a_9 hI hp
      rw [I_10_] at hI
      obtain ⟨q_13, q_14, q_15, q_16, q_17, q_18, q_19, q_20, q_21, q_22, q_23, q_24, ht_25, hn_26⟩ := hI
      try simp [h_4, q_13, q_14, q_15, q_16, q_17, q_18, q_19, q_20, q_21, q_22, q_23, q_24]
      rcases cond_cases hp with ⟨h_27, hp⟩ | ⟨h_27, hp⟩
      · try simp at h_27
        obtain ⟨e_28, h_29, hp⟩ := bind_some hp
        have b_30 := at_lo h_29
        have b_31 := at_hi h_29
        try simp at b_30
        try simp at b_31
        have c_32 := seg_at' h_29 0 1 (by decide) (ds := [.sc (.int .i64 e_28)]) rfl
        try simp at c_32
        obtain ⟨y_33, h_34, hp⟩ := bind_some hp
        try simp [h_4, q_13, q_14, q_15, q_16, q_17, q_18, q_19, q_20, q_21, q_22, q_23, q_24, h_27, b_30, b_31, c_32]
        refine goal_callRo [av .shr e_28, .one (.ptr (1, 3) 0)] (Res.res y_33) (by kernel_rfl) (by simp [h_4, q_13, q_14, q_15, q_16, q_17, q_18, q_19, q_20, q_21, q_22, q_23, q_24, h_27]) (wI94 (mk_1 := .own) G_94 (by repeat (first | exact ht_25 | exact tight_mem0 _ | exact hT.up | exact hT | (simp only [q_13, q_14, q_15, q_16, q_17, q_18, q_19, q_20, q_21, q_22, q_23, q_24]; done) | refine Tight.upd ?_ (by simp) (by simp))) (by simp) (by simp [h_4, q_13, q_14, q_15, q_16, q_17, q_18, q_19, q_20, q_21, q_22, q_23, q_24, h_27]) h_34) ?_
        obtain ⟨_, h_35, hp⟩ := bind_some hp
        have b_36 := room_ok h_35
        try simp at b_36
        cases hp
        try simp [h_4, q_13, q_14, q_15, q_16, q_17, q_18, q_19, q_20, q_21, q_22, q_23, q_24, h_27, b_36]
        refine goal_next ?_
        rw [I_10_]
        refine ⟨?_, ?_, ?_, ?_, ?_, ?_, ?_, ?_, ?_, ?_, ?_, ?_, (by repeat (first | exact ht_25 | exact tight_mem0 _ | exact hT.up | exact hT | refine Tight.restrict ?_ | refine Tight.upd ?_ (by simp) (by simp))), NoBox.restrict (by intro k hk hb; simp at hk hb; simp [hk, hb, h_4, q_13, q_14, q_15, q_16, q_17, q_18, q_19, q_20, q_21, q_22, q_23, q_24, h_27, b_36, hn_26 k (by simp [hk, hb])])⟩ <;> simp [restrict_env, restrict_mem, h_4, q_13, q_14, q_15, q_16, q_17, q_18, q_19, q_20, q_21, q_22, q_23, q_24, h_27, b_36]
      · try simp at h_27
        cases hp
        try simp [h_4, q_13, q_14, q_15, q_16, q_17, q_18, q_19, q_20, q_21, q_22, q_23, q_24, h_27]
        refine goal_outX ?_
        rw [X_11_]
        refine ⟨_, rfl, ?_, ?_, ?_, ?_, ?_, ?_, ?_, ?_, ?_, (by repeat (first | exact ht_25 | exact tight_mem0 _ | exact hT.up | exact hT | refine Tight.restrict ?_ | refine Tight.upd ?_ (by simp) (by simp))), NoBox.restrict (by intro k hk hb; simp at hk hb; simp [hk, hb, h_4, q_13, q_14, q_15, q_16, q_17, q_18, q_19, q_20, q_21, q_22, q_23, q_24, h_27, hn_26 k (by simp [hk, hb])])⟩ <;> simp [restrict_env, restrict_mem, h_4, q_13, q_14, q_15, q_16, q_17, q_18, q_19, q_20, q_21, q_22, q_23, q_24, h_27]
    · intro out hX
      rw [X_11_] at hX
      obtain ⟨σ_39, rfl, q_40, q_41, q_42, q_43, q_44, q_45, q_46, q_47, q_48, ht_49, hn_50⟩ := hX
      try simp [h_4, q_40, q_41, q_42, q_43, q_44, q_45, q_46, q_47, q_48]
      obtain ⟨r_84, h_85, hp⟩ := bind_some hp
      obtain ⟨I_53, I_53_⟩ : ∃ I : Int × (List Int) → St → Prop, I = (fun (s_51 : Int × (List Int)) (σ : St) => σ.env 1 = .one (.ptr (1, 1) 0) ∧ σ.env 2 = .one (.ptr (1, 2) 0) ∧ σ.env 4 = .one (.fn 94 [((1, 3), 0)]) ∧ σ.env 5 = .one (.ptr (1, 5) 0) ∧ σ.env 34 = .one (.l .bor y_5.length (encL y_5)) ∧ σ.env 35 = .one (.s (.int .i64 (y_5.length : Int))) ∧ σ.env 36 = .one (.s (.int .i64 s_51.1)) ∧ σ.mem (1, 1) = some [(.l .shr h_.vars.length (encL h_.vars)), (.l .shr h_.next.length (encL h_.next))] ∧ σ.mem (1, 2) = some [(.l .own 0 []), (.l .own 0 [])] ∧ σ.mem (1, 3) = some [(.l .own y_5.length (encL y_5))] ∧ σ.mem (1, 5) = some [(.l .own r_37.length (encL r_37)), (.l .own s_51.2.length (encL s_51.2))] ∧ Tight (1) σ.mem ∧ NoBox [(1, 1), (1, 2), (1, 3), (1, 5)] σ.mem) := ⟨_, rfl⟩
      obtain ⟨X_54, X_54_⟩ : ∃ X : (List Int) → Out → Prop, X = (fun (r_84 : (List Int)) (out : Out) => ∃ σ : St, out = .exit 2 σ ∧ σ.env 2 = .one (.ptr (1, 2) 0) ∧ σ.env 5 = .one (.ptr (1, 5) 0) ∧ σ.mem (1, 1) = some [(.l .shr h_.vars.length (encL h_.vars)), (.l .shr h_.next.length (encL h_.next))] ∧ σ.mem (1, 2) = some [(.l .own 0 []), (.l .own 0 [])] ∧ σ.mem (1, 3) = some [(.l .own y_5.length (encL y_5))] ∧ σ.mem (1, 5) = some [(.l .own r_37.length (encL r_37)), (.l .own r_84.length (encL r_84))] ∧ Tight (1) σ.mem ∧ NoBox [(1, 1), (1, 2), (1, 3), (1, 5)] σ.mem) := ⟨_, rfl⟩
      refine loopP ({ hd := [1, 2, 4, 5, 34, 35, 36], bx := [], ex := [2, 5], rt := [2] }) I_53 X_54 h_85 (by exact rfl) ?_ ?_ ?_
      · rw [I_53_]
        refine ⟨?_, ?_, ?_, ?_, ?_, ?_, ?_, ?_, ?_, ?_, ?_, (by repeat (first | exact ht_49 | exact tight_mem0 _ | exact hT.up | exact hT | refine Tight.restrict ?_ | refine Tight.upd ?_ (by simp) (by simp))), NoBox.restrict (by intro k hk hb; simp at hk hb; simp [hk, hb, h_4, q_40, q_41, q_42, q_43, q_44, q_45, q_46, q_47, q_48, hn_50 k (by simp [hk, hb])])⟩ <;> simp [restrict_env, restrict_mem, h_4, q_40, q_41, q_42, q_43, q_44, q_45, q_46, q_47, q_48]
      · intro s_51 σ_55 a_52 hI hp
        rw [I_53_] at hI
        obtain ⟨q_56, q_57, q_58, q_59, q_60, q_61, q_62, q_63, q_64, q_65, q_66, ht_67, hn_68⟩ := hI
        try simp [h_4, q_56, q_57, q_58, q_59, q_60, q_61, q_62, q_63, q_64, q_65, q_66]
        rcases cond_cases hp with ⟨h_69, hp⟩ | ⟨h_69, hp⟩
        · try simp at h_69
          obtain ⟨e_70, h_71, hp⟩ := bind_some hp
          have b_72 := at_lo h_71
          have b_73 := at_hi h_71
          try simp at b_72
          try simp at b_73
          have c_74 := seg_at' h_71 0 1 (by decide) (ds := [.sc (.int .i64 e_70)]) rfl
          try simp at c_74
          obtain ⟨e_75, h_76, hp⟩ := bind_some hp
          have b_77 := at_lo h_76
          have b_78 := at_hi h_76
          try simp at b_77
          try simp at b_78
          have c_79 := seg_at' h_76 0 1 (by decide) (ds := [.sc (.int .i64 e_75)]) rfl
          try simp at c_79
          obtain ⟨y_80, h_81, hp⟩ := bind_some hp
          try simp [h_4, q_56, q_57, q_58, q_59, q_60, q_61, q_62, q_63, q_64, q_65, q_66, h_69, b_72, b_73, c_74, b_77, b_78, c_79]
          refine goal_callRo [av .shr e_75, .one (.ptr (1, 3) 0)] (Res.res y_80) (by kernel_rfl) (by simp [h_4, q_56, q_57, q_58, q_59, q_60, q_61, q_62, q_63, q_64, q_65, q_66, h_69]) (wI94 (mk_1 := .own) G_94 (by repeat (first | exact ht_67 | exact tight_mem0 _ | exact hT.up | exact hT | (simp only [q_56, q_57, q_58, q_59, q_60, q_61, q_62, q_63, q_64, q_65, q_66]; done) | refine Tight.upd ?_ (by simp) (by simp))) (by simp) (by simp [h_4, q_56, q_57, q_58, q_59, q_60, q_61, q_62, q_63, q_64, q_65, q_66, h_69]) h_81) ?_
          obtain ⟨_, h_82, hp⟩ := bind_some hp
          have b_83 := room_ok h_82
          try simp at b_83
          cases hp
          try simp [h_4, q_56, q_57, q_58, q_59, q_60, q_61, q_62, q_63, q_64, q_65, q_66, h_69, b_83]
          refine goal_next ?_
          rw [I_53_]
          refine ⟨?_, ?_, ?_, ?_, ?_, ?_, ?_, ?_, ?_, ?_, ?_, (by repeat (first | exact ht_67 | exact tight_mem0 _ | exact hT.up | exact hT | refine Tight.restrict ?_ | refine Tight.upd ?_ (by simp) (by simp))), NoBox.restrict (by intro k hk hb; simp at hk hb; simp [hk, hb, h_4, q_56, q_57, q_58, q_59, q_60, q_61, q_62, q_63, q_64, q_65, q_66, h_69, b_83, hn_68 k (by simp [hk, hb])])⟩ <;> simp [restrict_env, restrict_mem, h_4, q_56, q_57, q_58, q_59, q_60, q_61, q_62, q_63, q_64, q_65, q_66, h_69, b_83]
        · try simp at h_69
          cases hp
          try simp [h_4, q_56, q_57, q_58, q_59, q_60, q_61, q_62, q_63, q_64, q_65, q_66, h_69]
          refine goal_outX ?_
          rw [X_54_]
          refine ⟨_, rfl, ?_, ?_, ?_, ?_, ?_, ?_, (by repeat (first | exact ht_67 | exact tight_mem0 _ | exact hT.up | exact hT | refine Tight.restrict ?_ | refine Tight.upd ?_ (by simp) (by simp))), NoBox.restrict (by intro k hk hb; simp at hk hb; simp [hk, hb, h_4, q_56, q_57, q_58, q_59, q_60, q_61, q_62, q_63, q_64, q_65, q_66, h_69, hn_68 k (by simp [hk, hb])])⟩ <;> simp [restrict_env, restrict_mem, h_4, q_56, q_57, q_58, q_59, q_60, q_61, q_62, q_63, q_64, q_65, q_66, h_69]
      · intro out hX
        rw [X_54_] at hX
        obtain ⟨σ_86, rfl, q_87, q_88, q_89, q_90, q_91, q_92, ht_93, hn_94⟩ := hX
        cases hp
        simp [Goal, FnEnd, retR, rsrc, RSrc.val, nodupR, nodup, tupPart, h_4, q_87, q_88, q_89, q_90, q_91, q_92]
  · try simp at h_4
    cases hp
    simp [Goal, FnEnd, retR, rsrc, RSrc.val, nodupR, nodup, tupPart, h_4]
theorem pc74 : PC Try.prog 74 C74 := pc_of (g := g74) (ctxOK_of [(60, C60), (62, C62), (92, C92)] rfl ⟨pc60, pc62, pc92, trivial⟩) ⟨Try.f74, Try.func74, by kernel_rfl, by kernel_rfl⟩ fun x y h => w74 h
end Go.Proofs

