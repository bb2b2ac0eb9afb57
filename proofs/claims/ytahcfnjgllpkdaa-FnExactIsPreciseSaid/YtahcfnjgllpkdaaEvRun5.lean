import Derived.Test.YtahcfnjgllpkdaaEvGho
set_option linter.unusedSimpArgs false
set_option linter.unusedVariables false
set_option linter.unnecessarySimpa false
namespace Go.Ev

def CtxOK (g : Cfg) : Prop := ∀ f F, lookN f g.ctx = some F → PC g.P f F

/-- a frame is entered: what is new from here on is a frame deeper -/
def retF : Tag → Tag
  | .at .ret _ => .foreign
  | t => t
def Gh.enter (G : Gh) (n d : Nat) : Gh := { G with own := fun b => (G.own b).map retF, age := fun b => if b < n then G.age b else d }

theorem retF_box {k : Key} {t : Tag} (h : retF t = .box k) : t = .box k := by
  cases t with
  | foreign => cases h
  | box k' => exact h
  | «at» o q => cases o <;> cases h
theorem retF_cell {k : Key} {q : List Nat} {t : Tag} (h : retF t = .at (.cell k) q) : t = .at (.cell k) q := by
  cases t with
  | foreign => cases h
  | box k' => cases h
  | «at» o q => cases o <;> first | exact h | cases h

theorem enter_hands (G : Gh) (w : World) (d : Nat) (o : Ow) (p : List Nat) (ho : o ≠ .ret) : Hands w G w (G.enter w.heap.size d) o p o p fun _ => false where
  tag b q _ h := ⟨by
    show (G.own b).map retF = _
    rw [h]
    cases o <;> first | rfl | exact absurd rfl ho, rfl, rfl⟩
  nil b _ h := by show (G.own b).map retF = _; rw [h]; rfl
  box b _ h k hk := by
    have hk : (G.own b).map retF = some (.box k) := hk
    rw [Option.map_eq_some_iff] at hk
    obtain ⟨t, ht, hb⟩ := hk
    exact h k (by rw [ht, retF_box hb])
  use _ _ _ := Nat.le_refl _
  cell _ _ _ _ _ := rfl
  live k hk _ := ⟨hk, rfl, rfl⟩

theorem MemOK.enter {d : Nat} {G : Gh} {mem : Mem} {w : World} (h : MemOK d G mem w) : MemOK (d + 1) (G.enter w.heap.size (d + 1)) mem w ∧ Frm (d + 1) G w (G.enter w.heap.size (d + 1)) w := by
  have own : ∀ b t, (G.enter w.heap.size (d + 1)).own b = some t → ∃ t0, G.own b = some t0 ∧ retF t0 = t := fun b t hb => by
    have hb : (G.own b).map retF = some t := hb
    rwa [Option.map_eq_some_iff] at hb
  constructor
  · refine { cells := fun k cs hk hn2 => ?_, live := h.live, dep := fun k hk => Nat.le_succ_of_le (h.dep k hk), wf := fun b t hb => ?_, wfb := fun b k hb => ?_, wfc := fun b k p hb => ?_, age := fun b => ?_, fut := fun b hb => ?_, aged := fun b t hb => ?_ }
    · obtain ⟨arr, e, h1, h2, h3, h4⟩ := h.cells k cs hk hn2
      exact ⟨arr, e, h1, by show (G.own (G.β k)).map retF = _; rw [h2]; rfl, h3, (enter_hands G w (d + 1) (.cell k) [] (by simp)).rcs0 h4⟩
    · obtain ⟨t0, h0, _⟩ := own b t hb
      exact h.wf b t0 h0
    · obtain ⟨t0, h0, h1⟩ := own b _ hb
      exact h.wfb b k (by rw [h0, retF_box h1])
    · obtain ⟨t0, h0, h1⟩ := own b _ hb
      exact h.wfc b k p (by rw [h0, retF_cell h1])
    · show (if b < w.heap.size then G.age b else d + 1) ≤ d + 1
      have := h.age b
      split <;> omega
    · show (if b < w.heap.size then G.age b else d + 1) = d + 1
      rw [if_neg (by omega)]
    · obtain ⟨t0, h0, rfl⟩ := own b _ hb
      have hlt := h.wf b t0 h0
      have ha := h.aged b t0 h0
      show (retF t0).dep (d + 1) ≤ if b < w.heap.size then G.age b else d + 1
      rw [if_pos hlt]
      cases t0 with
      | foreign => exact Nat.zero_le _
      | box k => exact ha
      | «at» o q =>
        cases o with
        | ret => exact Nat.zero_le _
        | slot a b => exact ha
        | cell k => exact ha
  · exact {
      size := Nat.le_refl _
      kept := Kept.refl w
      same := fun b hb ht => ⟨rfl, by
        show (G.own b).map retF = _
        cases hg : G.own b with
        | none => rfl
        | some t =>
          rw [hg] at ht
          cases t with
          | foreign => rfl
          | box k => rfl
          | «at» o q =>
            cases o with
            | ret => exact absurd trivial ht
            | slot a b => rfl
            | cell k => rfl, rfl⟩
      age := fun b hb _ => by show (if b < w.heap.size then G.age b else d + 1) = _; rw [if_pos hb]
      box := fun b hb _ hk => (enter_hands G w (d + 1) (.cell (0, 0)) [] (by simp)).box b hb hk
      use := fun _ _ _ => Nat.le_refl _
      cell := fun _ _ _ _ _ _ => rfl
      live := fun k hk _ => ⟨hk, rfl, rfl⟩ }

theorem args_slots {G : Gh} {w : World} {args : List AV} {vals : Array Value} {N : Nat} (h : ArgsOK w G args vals) (d n t : Nat) (hn : n = w.heap.size) :
    RA w (G.enter n d) (.slot d t) ((args[t]?).getD .dead) ((vals ++ Array.replicate (N - vals.size) undef).getD t undef) := by
  cases hx : args[t]? with
  | none => exact trivial
  | some x =>
    obtain ⟨v, hv, hr⟩ := h.2 t x hx
    rw [Array.getD_eq_getD_getElem?, Array.getElem?_append, if_pos (Array.getElem?_eq_some_iff.1 hv).1, hv]
    subst hn
    exact (enter_hands G w d (.slot d t) [] (by simp)).ra0 (hr d t)

theorem postC_ret {d N : Nat} {P : Program} {fn : Func} {G : Gh} {w : World} {out : Out} {R : Ending → World → Prop} {σ0 : St} (hdone : out.done = some σ0)
    (h : ∀ σ' G' tm w', out.done = some σ' → Sim d N G' σ' tm w' → Frm d G w G' w' → ∃ v, (results fn tm).run P w' = .ok v w' ∧ R (.returned v) w') :
    ∀ e a w', postC d N G w out e a w' → bodyPost P fn R e a w' := by
  intro e a w' hp
  cases e with
  | normal =>
    obtain ⟨h0, σ', G', rfl, hS, hF⟩ := hp
    exact ⟨h0, h σ' G' a.tmps w' rfl hS hF⟩
  | ret =>
    obtain ⟨h0, σ', G', rfl, hS, hF⟩ := hp
    exact ⟨h0, h σ' G' a.tmps w' rfl hS hF⟩
  | exit id =>
    obtain ⟨h0, σ', G', rfl, hS, hF⟩ := hp
    cases hdone
  | goto l => exact hp.elim
  | panic c => exact hp.elim
  | outgrown => exact hp.elim

theorem rounds_mono {P : Program} {c : Code} {Q Q' : Exit → Act → World → Prop} (h : ∀ e a w, Q e a w → Q' e a w) : ∀ {n : Nat} {a : Act} {w : World}, Code.rounds P c Q n a w → Code.rounds P c Q' n a w
  | 0, _, _, hr => hr
  | n + 1, a, w, hr => by
    rw [rounds_succ] at hr ⊢
    refine wp_mono hr fun e a' w' hq => ?_
    cases e with
    | normal => exact rounds_mono h hq
    | _ => exact h _ _ _ hq

theorem rounds_of {g : Cfg} {d f N : Nat} {c : Code} {kk : Kp} (hk : lookK (f, rid c) g.keep = some kk) :
    ∀ n, (∀ m < n, ∀ σ out, evN g m d f c σ = some out → ∀ G w a, Sim d N G σ a.tmps w → a.defers = [] → c.wp g.P (postC d N G w out) a w) →
    ∀ σ out, evN g n d f (.loop c) σ = some out → ∀ G w a, Sim d N G σ a.tmps w → a.defers = [] → Code.rounds g.P c (postC d N G w out) n a w
  | 0, _, σ, out, h, _, _, _, _, _ => by rw [evN] at h; cases h
  | n + 1, hb, σ, out, h, G, w, a, hS, hd => by
    rw [evN] at h
    rw [hk] at h
    simp only [Option.bind_some] at h
    rw [Option.bind_eq_some_iff] at h
    obtain ⟨o, ho, h⟩ := h
    obtain ⟨G1, hS1, hF1⟩ := hS.restrict (kk.hd, kk.bx)
    rw [rounds_succ]
    refine wp_mono (hb n (by omega) _ _ ho G1 w a hS1 hd) fun e a' w' hp => ?_
    cases e with
    | normal =>
      obtain ⟨h0, σ', G', rfl, hS', hF'⟩ := hp
      simp only [Out.loopThen] at h
      have ih := rounds_of hk n (fun m hm => hb m (by omega)) σ' out h G' w' a' hS' h0
      exact rounds_mono (fun e a w h => postC.trans (hF1.trans hF') e a w h) ih
    | exit id =>
      obtain ⟨h0, σ', G', rfl, hS', hF'⟩ := hp
      simp only [Out.loopThen, Option.some.injEq] at h
      subst h
      obtain ⟨G2, hS2, hF2⟩ := hS'.restrict (kk.ex, kk.bx)
      exact ⟨h0, _, G2, rfl, hS2, (hF1.trans hF').trans hF2⟩
    | ret =>
      obtain ⟨h0, σ', G', rfl, hS', hF'⟩ := hp
      simp only [Out.loopThen, Option.some.injEq] at h
      subst h
      obtain ⟨G2, hS2, hF2⟩ := hS'.restrict (kk.rt, kk.bx)
      exact ⟨h0, _, G2, rfl, hS2, (hF1.trans hF').trans hF2⟩
    | goto l => exact hp.elim
    | panic c => exact hp.elim
    | outgrown => exact hp.elim

theorem step_ok {g : Cfg} {n d f N : Nat} (hA : ∀ f args mem r mem', callN g n d f args mem = some (r, mem') → CallOK g.P d f args mem mem' r) {o : Oper} (hd : o.dst.all (· < N) = true) {σ σ' : St} (h : stepW (callN g n d) g d f o σ = some σ') : StepOK g.P d N o σ σ' := by
  rcases isV (op := o.op) with ⟨x, args, argTypes, ho⟩ | hne
  · rw [stepW_call ho, Option.bind_eq_some_iff] at h
    obtain ⟨⟨k, caps⟩, hkc, h⟩ := h
    rw [Option.bind_eq_some_iff] at h
    obtain ⟨⟨r, mem'⟩, hrm, h⟩ := h
    simp only [Option.some.injEq] at h
    subst h
    exact call_step hd ho hkc (hA _ _ _ _ _ hrm)
  · rw [stepW_op hne, Option.bind_eq_some_iff] at h
    obtain ⟨⟨v, σ1⟩, hv, h⟩ := h
    simp only [Option.some.injEq] at h
    subst h
    exact OpOK.step fun G w a hS => opE_ok hS hd hv

/-- THE SOUNDNESS -/
theorem sound (g : Cfg) (hctx : CtxOK g) : ∀ n,
    (∀ m ≤ n, ∀ d f args mem r mem', callN g m d f args mem = some (r, mem') → CallOK g.P d f args mem mem' r) ∧
    (∀ m ≤ n, ∀ d f N c, codeOK g f N c = true → ∀ σ out, evN g m d f c σ = some out → ∀ G w a, Sim d N G σ a.tmps w → a.defers = [] → c.wp g.P (postC d N G w out) a w) := by
  intro n
  induction n with
  | zero =>
    refine ⟨fun m hm d f args mem r mem' h => ?_, fun m hm d f N c _ σ out h => ?_⟩
    · have : m = 0 := by omega
      subst this
      rw [callN] at h; cases h
    · have : m = 0 := by omega
      subst this
      rw [evN] at h; cases h
  | succ n ih =>
    obtain ⟨ihA, ihC⟩ := ih
    have hA : ∀ d f args mem r mem', callN g (n + 1) d f args mem = some (r, mem') → CallOK g.P d f args mem mem' r := by
      intro d f args mem r mem' h
      rw [callN] at h
      cases hl : lookN f g.ctx with
      | some F =>
        rw [hl] at h
        simp only at h
        rw [Option.bind_eq_some_iff] at h
        obtain ⟨la, hla, h⟩ := h
        rw [Option.bind_eq_some_iff] at h
        obtain ⟨r', hr', h⟩ := h
        split at h
        · rename_i hc
          simp only [Option.some.injEq, Prod.mk.injEq] at h
          obtain ⟨rfl, rfl⟩ := h
          exact (hctx f F hl).call hla hr' hc
        · cases h
      | none =>
        rw [hl] at h
        simp only at h
        cases hf : g.P.funcs[f]? with
        | none => rw [hf] at h; cases h
        | some fn =>
          rw [hf] at h
          simp only at h
          cases hb : fn.body with
          | none => rw [hb] at h; cases h
          | some c =>
            rw [hb] at h
            simp only at h
            split at h
            · cases h
            rename_i hok
            simp only [Bool.or_eq_true, Bool.not_eq_true', decide_eq_true_eq, not_or, Bool.not_eq_false] at hok
            obtain ⟨hfn, hlen⟩ := hok
            rw [Option.bind_eq_some_iff] at h
            obtain ⟨out, hout, h⟩ := h
            rw [Option.bind_eq_some_iff] at h
            obtain ⟨σ', hσ', h⟩ := h
            rw [Option.bind_eq_some_iff] at h
            obtain ⟨σe, hσe, h⟩ := h
            rw [Option.bind_eq_some_iff] at h
            obtain ⟨r0, hr0, h⟩ := h
            simp only [Option.some.injEq, Prod.mk.injEq] at h
            obtain ⟨rfl, rfl⟩ := h
            unfold fnOK at hfn
            rw [hb] at hfn
            simp only [Bool.and_eq_true] at hfn
            obtain ⟨⟨hcode, hname⟩, _⟩ := hfn
            refine ⟨⟨fn, hf, by rw [hb]; rfl, by simpa using hname⟩, fun G w vals hargs hM => ?_⟩
            refine calls_of_wp hf hb ?_
            obtain ⟨hM1, hF1⟩ := hM.enter
            have hS : Sim (d + 1) fn.ntmps (G.enter w.heap.size (d + 1)) { env := fun t => (args[t]?).getD .dead, mem } (vals ++ Array.replicate (fn.ntmps - vals.size) undef) w :=
              hM1.sim (by rw [Array.size_append, Array.size_replicate, hargs.1]; omega) fun t => args_slots hargs (d + 1) _ t rfl
            refine wp_mono (ihC n (Nat.le_refl _) (d + 1) f fn.ntmps c hcode _ _ hout (G.enter w.heap.size (d + 1)) w { tmps := vals ++ Array.replicate (fn.ntmps - vals.size) undef, defers := [] } hS rfl) ?_
            refine postC_ret hσ' fun σ2 G2 tm w2 h2 hS2 hF2 => ?_
            rw [hσ'] at h2
            cases h2
            obtain ⟨Ge, hSe, hFe⟩ := ghoAt_ok hS2 hσe
            obtain ⟨v, G3, hrun, hRA, hM3, hF3⟩ := hSe.returns (P := g.P) hr0
            exact ⟨v, hrun, v, G3, rfl, hRA, hM3, ((hF1.trans hF2).trans hFe).trans hF3⟩
    have hC : ∀ d f N c, codeOK g f N c = true → ∀ σ out, evN g (n + 1) d f c σ = some out → ∀ G w a, Sim d N G σ a.tmps w → a.defers = [] → c.wp g.P (postC d N G w out) a w := by
      intro d f N c hcode σ out h G w a hS hd
      cases c with
      | skip =>
        rw [evN] at h
        simp only [Option.some.injEq] at h
        subst h
        exact wp_skip ⟨hd, σ, G, rfl, hS, Frm.refl _ _ _⟩
      | label l =>
        rw [evN] at h
        simp only [Option.some.injEq] at h
        subst h
        exact wp_label ⟨hd, σ, G, rfl, hS, Frm.refl _ _ _⟩
      | exit id =>
        rw [evN] at h
        simp only [Option.some.injEq] at h
        subst h
        exact wp_exit ⟨hd, σ, G, rfl, hS, Frm.refl _ _ _⟩
      | ret =>
        rw [evN] at h
        simp only [Option.some.injEq] at h
        subst h
        exact wp_ret ⟨hd, σ, G, rfl, hS, Frm.refl _ _ _⟩
      | region id ops draw =>
        rw [evN] at h
        simp only [Option.bind_eq_some_iff, Option.map_eq_some_iff] at h
        obtain ⟨σ0, hg0, σ', h, σ2, hg2, rfl⟩ := h
        obtain ⟨G0, hS0', hF0'⟩ := ghoAt_ok hS hg0
        refine wp_mono ?_ fun e a w hh => postC.trans hF0' e a w hh
        have hS := hS0'
        have hrun := arun_of_evOps g d f ops ops.toList n n σ0 σ' (Nat.le_succ n) h
        simp only [codeOK, Bool.and_eq_true] at hcode
        obtain ⟨hops, hdraw⟩ := hcode
        have hdst : ∀ o ∈ ops.toList, o.dst.all (· < N) = true := by
          intro o ho
          rw [Array.all_eq_true_iff_forall_mem] at hops
          have := hops o (by simpa using ho)
          simp only [Bool.and_eq_true] at this
          exact this.1
        have hstep : ∀ o ∈ ops.toList, ∀ σ σ', stepW (callN g n d) g d f o σ = some σ' → StepOK g.P d N o σ σ' := fun o ho σ σ' hh => step_ok (fun f args mem r mem' => ihA n (Nat.le_refl _) d f args mem r mem') (hdst o ho) hh
        cases draw with
        | false =>
          refine wp_region ?_
          rw [List.range_eq_range']
          exact wpOps_run hstep hdst ops.size 0 (by omega) G0 w a σ0 σ' hS (by simpa using hrun) fun G' a' w' hS' hF' hdf => by obtain ⟨G2, hS2, hF2⟩ := ghoAt_ok hS' hg2; exact ⟨hdf.trans hd, σ2, G2, rfl, hS2, hF'.trans hF2⟩
        | true =>
          simp only [Bool.not_true, Bool.false_or, Bool.and_eq_true] at hdraw
          refine wp_region_any hdraw.1 ?_
          obtain ⟨hS0, hF0⟩ := hS.sameHeap (w' := { w with drawn := w.drawn + 1 }) rfl ⟨rfl, rfl, rfl⟩
          refine wpAny_run hstep hdst hdraw.2 ops.size (List.range ops.size) _ G0 _ a σ0 σ' (by simp) (by simp) List.pairwise_lt_range (fun i => ?_) hS0 ?_ fun G' a' w' hS' hF' hdf => by obtain ⟨G2, hS2, hF2⟩ := ghoAt_ok hS' hg2; exact ⟨hdf.trans hd, σ2, G2, rfl, hS2, (hF0.trans hF').trans hF2⟩
          · rw [List.mem_range]
            constructor
            · intro hi; exact ⟨hi, by simp [Array.getD_eq_getD_getElem?, hi]⟩
            · exact fun hh => hh.1
          · rw [List.range_eq_range', irun_range _ _ ops.size 0 (by omega)]
            simpa using hrun
      | seq x y =>
        rw [evN] at h
        simp only [codeOK, Bool.and_eq_true] at hcode
        simp only [Option.bind_eq_some_iff] at h
        obtain ⟨o, ho, h⟩ := h
        refine wp_seq (wp_mono (ihC n (Nat.le_refl _) d f N x hcode.1 σ o ho G w a hS hd) fun e a' w' hp => ?_)
        cases e with
        | normal =>
          obtain ⟨h0, σ', G', rfl, hS', hF'⟩ := hp
          exact wp_mono (ihC n (Nat.le_refl _) d f N y hcode.2 σ' out h G' w' a' hS' h0) fun e a w hh => postC.trans hF' e a w hh
        | exit id =>
          obtain ⟨h0, σ', G', rfl, hS', hF'⟩ := hp
          simp only [Out.then, Option.some.injEq] at h
          subst h
          exact ⟨h0, σ', G', rfl, hS', hF'⟩
        | ret =>
          obtain ⟨h0, σ', G', rfl, hS', hF'⟩ := hp
          simp only [Out.then, Option.some.injEq] at h
          subst h
          exact ⟨h0, σ', G', rfl, hS', hF'⟩
        | goto l => exact hp.elim
        | panic c => exact hp.elim
        | outgrown => exact hp.elim
      | cond x y z =>
        rw [evN] at h
        simp only [codeOK, Bool.and_eq_true] at hcode
        simp only [Option.bind_eq_some_iff] at h
        obtain ⟨t, ht, h⟩ := h
        have hv := toBool_ok ht (hS.opnd x)
        refine wp_cond hv ?_
        cases t with
        | true => exact ihC n (Nat.le_refl _) d f N y hcode.1 σ out h G w a hS hd
        | false => exact ihC n (Nat.le_refl _) d f N z hcode.2 σ out h G w a hS hd
      | block id x =>
        rw [evN] at h
        simp only [codeOK] at hcode
        simp only [Option.bind_eq_some_iff, Option.some.injEq] at h
        obtain ⟨o, ho, rfl⟩ := h
        refine wp_block (wp_mono (ihC n (Nat.le_refl _) d f N x hcode σ o ho G w a hS hd) fun e a' w' hp => ?_)
        cases e with
        | normal =>
          obtain ⟨h0, σ', G', rfl, hS', hF'⟩ := hp
          exact ⟨h0, σ', G', rfl, hS', hF'⟩
        | exit id' =>
          obtain ⟨h0, σ', G', rfl, hS', hF'⟩ := hp
          show if id' = id then _ else _
          simp only [Out.blk]
          by_cases hid : id' = id
          · simp only [hid, if_true]
            exact ⟨h0, σ', G', rfl, hS', hF'⟩
          · simp only [hid, if_false]
            exact ⟨h0, σ', G', rfl, hS', hF'⟩
        | ret =>
          obtain ⟨h0, σ', G', rfl, hS', hF'⟩ := hp
          exact ⟨h0, σ', G', rfl, hS', hF'⟩
        | goto l => exact hp.elim
        | panic c => exact hp.elim
        | outgrown => exact hp.elim
      | loop x =>
        simp only [codeOK] at hcode
        have h' := h
        rw [evN] at h
        simp only [Option.bind_eq_some_iff] at h
        obtain ⟨kk, hkk, _⟩ := h
        exact wp_loop_rounds (n + 1) (rounds_of hkk (n + 1) (fun m hm σ out hm2 => ihC m (by omega) d f N x hcode σ out hm2) σ out h' G w a hS hd)
      | _ => rw [evN] at h; cases h
    refine ⟨fun m hm => ?_, fun m hm => ?_⟩
    · rcases Nat.lt_or_ge m (n + 1) with h | h
      · exact ihA m (by omega)
      · have : m = n + 1 := by omega
        subst this
        exact hA
    · rcases Nat.lt_or_ge m (n + 1) with h | h
      · exact ihC m (by omega)
      · have : m = n + 1 := by omega
        subst this
        exact hC

/-- the evaluator's answer is the call's -/
theorem sound_callo {g : Cfg} (hctx : CtxOK g) {d f : Nat} {args : List AV} {mem mem' : Mem} {r : AV} (h : callo g d f args mem = some (r, mem')) : CallOK g.P d f args mem mem' r := by
  unfold callo at h
  rw [lim_some (mono_call g d f args mem)] at h
  obtain ⟨n, hn⟩ := h
  exact (sound g hctx n).1 n (Nat.le_refl _) d f args mem r mem' hn

def mem0 : Mem := fun _ => none

/-- a function's contract, by evaluation -/
theorem PC.of_ev {g : Cfg} (hctx : CtxOK g) {f : Nat} {F : List AV → Option AV} (hE : Enters g.P f) (h : ∀ args r, F args = some r → ∃ m, callo g 0 f args mem0 = some (r, m)) : PC g.P f F := by
  refine ⟨hE, fun args r hF G w vals hflat hlive hage hA => ?_⟩
  obtain ⟨m, hm⟩ := h args r hF
  have hM : MemOK 0 G mem0 w := {
    cells := fun k cs hk => by cases hk
    live := fun k => ⟨fun hh => (hlive k hh).elim, fun hh => by cases hh⟩
    dep := fun k hk => (hlive k hk).elim
    wf := fun b t hb => (hflat b t hb).2
    wfb := fun b k hb => by have := (hflat b _ hb).1; cases this
    wfc := fun b k p hb => by have := (hflat b _ hb).1; cases this
    age := fun b => Nat.le_of_eq (hage b)
    fut := fun b _ => hage b
    aged := fun b t hb => by have := (hflat b t hb).1; subst this; exact Nat.zero_le _ }
  refine ((sound_callo hctx hm).2 G w vals hA hM).mono fun e w' he => ?_
  obtain ⟨v, G', rfl, hRA, hM', hF'⟩ := he
  refine ⟨v, G', rfl, hRA, hF'.size, hF'.kept, fun b hb => hF'.same b hb ?_, fun b t hb => hM'.wf b t hb⟩
  cases hg : G.own b with
  | none => exact fun h => h
  | some t => have := (hflat b t hg).1; subst this; exact fun h => h

end Go.Ev
