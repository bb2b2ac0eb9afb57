import Derived.Test.YtahcfnjgllpkdaaEvAny
set_option linter.unusedSimpArgs false
set_option linter.unusedVariables false
set_option linter.unnecessarySimpa false
namespace Go.Ev

/-- a contract: called with data that reads as 'args' (nothing owned), f returns what reads as F's answer; nothing that was there is changed -/
def PC (P : Program) (f : Nat) (F : List AV → Option AV) : Prop := Enters P f ∧ ∀ args r, F args = some r → ∀ (G : Gh) (w : World) (vals : Array Value),
  (∀ b t, G.own b = some t → t = .foreign ∧ b < w.heap.size) → (∀ k, ¬ G.live k) → (∀ b, G.age b = 0) → ArgsOK w G args vals →
  Calls P f vals w fun e w' => ∃ v G', e = .returned v ∧ RA w' G' .ret r v ∧ w.heap.size ≤ w'.heap.size ∧ Kept w w' ∧
    (∀ b, b < w.heap.size → w'.heap[b]? = w.heap[b]? ∧ G'.own b = G.own b ∧ G'.use b = G.use b) ∧ ∀ b t, G'.own b = some t → b < w'.heap.size

-- lent: all is read as shared
mutual
theorem RD_lend {w : World} {G G0 : Gh} {o o' : Ow} (hu : ∀ b, G.use b ≤ G0.use b) : ∀ {d : D} {m : Md} {p p' : List Nat} {v : Value}, (∀ b, G0.own b = none) → RD w G o m p d v → RD w G0 o' .shr p' d v
  | .sc x, m, p, p', v, _, hr => by rw [RD] at hr ⊢; exact hr
  | .sl n cs, m, p, p', v, hn0, hr => by
    rw [RD] at hr ⊢
    rcases hr with ⟨h1, h2, a, cap, hv, _⟩ | ⟨h1, h2, b, off, cap, hv, hc, hn, hs⟩
    · exact .inl ⟨h1, h2, a, cap, hv, by simp [Md.isOwn]⟩
    · exact .inr ⟨h1, h2, b, off, cap, hv, hc, ⟨hn0 b, Nat.le_trans (use_of_node hn) (hu b)⟩, RDs_lend hu hn0 hs⟩
theorem RDs_lend {w : World} {G G0 : Gh} {o o' : Ow} (hu : ∀ b, G.use b ≤ G0.use b) : ∀ {cs : List D} {m : Md} {p p' : List Nat} {b off i : Nat}, (∀ b, G0.own b = none) → RDs w G o m p b off i cs → RDs w G0 o' .shr p' b off i cs
  | [], m, p, p', b, off, i, _, _ => by rw [RDs]; trivial
  | d :: ds, m, p, p', b, off, i, hn0, hr => by
    rw [RDs] at hr ⊢
    obtain ⟨⟨v, hv, hd⟩, hr⟩ := hr
    exact ⟨⟨v, hv, RD_lend hu hn0 hd⟩, RDs_lend hu hn0 hr⟩
end

-- what is shared stays shared under another account
mutual
theorem RD_shr {w : World} {G G0 : Gh} {o o' : Ow} (hn : ∀ b, G.own b = none → G0.own b = none ∧ G.use b ≤ G0.use b) : ∀ {d : D} {p p' : List Nat} {v : Value}, RD w G o .shr p d v → RD w G0 o' .shr p' d v
  | .sc x, p, p', v, hr => by rw [RD] at hr ⊢; exact hr
  | .sl n cs, p, p', v, hr => by
    rw [RD] at hr ⊢
    rcases hr with hr | ⟨h1, h2, b, off, cap, hv, hc, hnd, hs⟩
    · exact .inl hr
    · exact .inr ⟨h1, h2, b, off, cap, hv, hc, ⟨(hn b hnd.1).1, Nat.le_trans hnd.2 (hn b hnd.1).2⟩, RDs_shr hn hs⟩
theorem RDs_shr {w : World} {G G0 : Gh} {o o' : Ow} (hn : ∀ b, G.own b = none → G0.own b = none ∧ G.use b ≤ G0.use b) : ∀ {cs : List D} {p p' : List Nat} {b off i : Nat}, RDs w G o .shr p b off i cs → RDs w G0 o' .shr p' b off i cs
  | [], p, p', b, off, i, _ => by rw [RDs]; trivial
  | d :: ds, p, p', b, off, i, hr => by
    rw [RDs] at hr ⊢
    obtain ⟨⟨v, hv, hd⟩, hr⟩ := hr
    exact ⟨⟨v, hv, RD_shr hn hd⟩, RDs_shr hn hr⟩
end

-- what a callee hands back, read under the caller's account
mutual
theorem RD_mv {w : World} {G G0 : Gh} {o : Ow} (ht : ∀ b q, G.own b = some (.at o q) → G0.own b = some (.at o q) ∧ G0.use b = G.use b) : ∀ {d : D} {m : Md} {p : List Nat} {v : Value}, m ≠ .bor →
    (m = .own ∨ ∀ b, G.own b = none → G0.own b = none ∧ G.use b ≤ G0.use b) → RD w G o m p d v → RD w G0 o m p d v
  | .sc x, m, p, v, _, _, hr => by rw [RD] at hr ⊢; exact hr
  | .sl n cs, m, p, v, hm, hn, hr => by
    rw [RD] at hr ⊢
    rcases hr with hr | ⟨h1, h2, b, off, cap, hv, hc, hnd, hs⟩
    · exact .inl hr
    · refine .inr ⟨h1, h2, b, off, cap, hv, hc, ?_, RDs_mv ht (by cases m <;> simp_all [Md.elem]) (by
        rcases hn with rfl | hn
        · exact .inl rfl
        · exact .inr hn) hs⟩
      cases m with
      | own => exact ⟨(ht b _ hnd.1).1, by rw [(ht b _ hnd.1).2]; exact hnd.2.1, hnd.2.2⟩
      | top => exact ⟨(ht b _ hnd.1).1, by rw [(ht b _ hnd.1).2]; exact hnd.2.1, hnd.2.2⟩
      | shr =>
        rcases hn with h | hn
        · cases h
        · exact ⟨(hn b hnd.1).1, Nat.le_trans hnd.2 (hn b hnd.1).2⟩
      | bor => exact absurd rfl hm
theorem RDs_mv {w : World} {G G0 : Gh} {o : Ow} (ht : ∀ b q, G.own b = some (.at o q) → G0.own b = some (.at o q) ∧ G0.use b = G.use b) : ∀ {cs : List D} {m : Md} {p : List Nat} {b off i : Nat}, m ≠ .bor →
    (m = .own ∨ ∀ b, G.own b = none → G0.own b = none ∧ G.use b ≤ G0.use b) → RDs w G o m p b off i cs → RDs w G0 o m p b off i cs
  | [], m, p, b, off, i, _, _, _ => by rw [RDs]; trivial
  | d :: ds, m, p, b, off, i, hm, hn, hr => by
    rw [RDs] at hr ⊢
    obtain ⟨⟨v, hv, hd⟩, hr⟩ := hr
    exact ⟨⟨v, hv, RD_mv ht hm hn hd⟩, RDs_mv ht hm hn hr⟩
end

theorem RCs_map {w : World} {G G0 : Gh} {o o' : Ow} {p p' : List Nat} {i i' : Nat} {cs cs' : List C} {vs : List Value} {F : C → Option C} (h : RCs w G o p i cs vs) (hm : cs.mapM F = some cs')
    (hF : ∀ (j : Nat) c c' v, c ∈ cs → F c = some c' → RC w G o (p ++ [i + j]) c v → RC w G0 o' (p' ++ [i' + j]) c' v) : RCs w G0 o' p' i' cs' vs := by
  induction cs generalizing i i' cs' vs with
  | nil => simp at hm; subst hm; exact ⟨h.1, fun j c hj => by simp at hj⟩
  | cons c cs ih =>
    rw [List.mapM_cons] at hm
    simp only [bind, Option.bind_eq_some_iff, pure, Option.some.injEq] at hm
    obtain ⟨c', hc', cs2, hcs2, rfl⟩ := hm
    obtain ⟨hl, hr⟩ := h
    cases vs with
    | nil => simp at hl
    | cons v vs =>
      have ih' := ih (i := i + 1) (i' := i' + 1) (vs := vs) ⟨by simpa using hl, fun j c hj => by
        obtain ⟨x, hx, hrc⟩ := hr (j + 1) c hj
        exact ⟨x, hx, by rw [show i + 1 + j = i + (j + 1) by omega]; exact hrc⟩⟩ hcs2 (fun j c c' v hmem hf hrc => by
          have := hF (j + 1) c c' v (List.mem_cons_of_mem _ hmem) hf (by rw [show i + (j + 1) = i + 1 + j by omega]; exact hrc)
          rwa [show i' + (j + 1) = i' + 1 + j by omega] at this)
      refine ⟨by simp [ih'.1], fun j c0 hj => ?_⟩
      cases j with
      | zero =>
        simp at hj
        subst hj
        obtain ⟨x, hx, hrc⟩ := hr 0 c rfl
        exact ⟨x, hx, hF 0 c c' x (List.mem_cons_self ..) hc' hrc⟩
      | succ j =>
        obtain ⟨x, hx, hrc⟩ := ih'.2 j c0 hj
        exact ⟨x, hx, by rw [show i' + (j + 1) = i' + 1 + j by omega]; exact hrc⟩

theorem RA_lend {w : World} {G G0 : Gh} {o o' : Ow} {x y : AV} {v : Value} (hl : x.lend = some y) (h : RA w G o x v)
    (hc : (∀ b, G0.own b = none) ∧ (∀ b, G.use b ≤ G0.use b) ∨ x.shr? = true ∧ ∀ b, G.own b = none → G0.own b = none ∧ G.use b ≤ G0.use b) : RA w G0 o' y v := by
  have cell : ∀ (p p' : List Nat) c c' v, C.lend c = some c' → ((∀ b, G0.own b = none) ∧ (∀ b, G.use b ≤ G0.use b) ∨ c.shr? = true ∧ ∀ b, G.own b = none → G0.own b = none ∧ G.use b ≤ G0.use b) → RC w G o p c v → RC w G0 o' p' c' v := by
    intro p p' c c' v hcl hcc hr
    cases c with
    | s u => simp only [C.lend, Option.some.injEq] at hcl; subst hcl; exact hr
    | l m n cs =>
      simp only [C.lend, Option.some.injEq] at hcl
      subst hcl
      rcases hcc with ⟨h1, h2⟩ | ⟨h1, h2⟩
      · exact RD_lend h2 h1 hr
      · cases m <;> simp only [C.shr?, Bool.false_eq_true] at h1
        exact RD_shr h2 hr
    | _ => simp [C.lend] at hcl
  cases x with
  | one c =>
    simp only [AV.lend, Option.map_eq_some_iff] at hl
    obtain ⟨c', hcl, rfl⟩ := hl
    exact cell _ _ _ _ _ hcl (hc.imp id fun h => ⟨h.1, h.2⟩) h
  | ag cs =>
    simp only [AV.lend, Option.map_eq_some_iff] at hl
    obtain ⟨cs', hcl, rfl⟩ := hl
    obtain ⟨vs, hv, hr⟩ := h
    refine ⟨vs, hv, RCs_map hr hcl fun j c c' v hmem hf hrc => cell _ _ _ _ _ hf (hc.imp id fun h => ⟨?_, h.2⟩) hrc⟩
    have := h.1
    simp only [AV.shr?] at this
    rw [List.all_eq_true] at this
    exact this c hmem
  | tu vs => simp [AV.lend] at hl

theorem RA_res {w : World} {G G0 : Gh} {o : Ow} {x : AV} {v : Value} (h : RA w G o x v) (ht : ∀ b q, G.own b = some (.at o q) → G0.own b = some (.at o q) ∧ G0.use b = G.use b)
    (hc : x.own? = true ∨ x.data? = true ∧ ∀ b, G.own b = none → G0.own b = none ∧ G.use b ≤ G0.use b) : RA w G0 o x v := by
  have cell : ∀ (p : List Nat) c v, (c.own? = true ∨ c.data? = true ∧ ∀ b, G.own b = none → G0.own b = none ∧ G.use b ≤ G0.use b) → RC w G o p c v → RC w G0 o p c v := by
    intro p c v hcc hr
    cases c with
    | s u => exact hr
    | l m n cs =>
      refine RD_mv ht ?_ ?_ hr
      · rintro rfl; simp [C.own?, C.data?] at hcc
      · rcases hcc with h | h
        · left; cases m <;> simp_all [C.own?]
        · exact .inr h.2
    | _ => simp [C.own?, C.data?] at hcc
  have cells : ∀ (p : List Nat) cs vs, (cs.all C.own? = true ∨ cs.all C.data? = true ∧ ∀ b, G.own b = none → G0.own b = none ∧ G.use b ≤ G0.use b) → RCs w G o p 0 cs vs → RCs w G0 o p 0 cs vs := by
    intro p cs vs hcc hr
    refine ⟨hr.1, fun j c hj => ?_⟩
    obtain ⟨x, hx, hrc⟩ := hr.2 j c hj
    refine ⟨x, hx, cell _ _ _ (hcc.imp (fun h => ?_) fun h => ⟨?_, h.2⟩) hrc⟩
    · rw [List.all_eq_true] at h; exact h c (List.mem_of_getElem? hj)
    · have := h.1; rw [List.all_eq_true] at this; exact this c (List.mem_of_getElem? hj)
  cases x with
  | one c => exact cell _ _ _ hc h
  | ag cs =>
    obtain ⟨vs, hv, hr⟩ := h
    exact ⟨vs, hv, cells _ _ _ hc hr⟩
  | tu l =>
    obtain ⟨vs, hv, hz, hr⟩ := h
    refine ⟨vs, hv, hz, fun i b cs hi => ?_⟩
    obtain ⟨x, hx, hrc⟩ := hr i b cs hi
    have hcc : cs.all C.own? = true ∨ cs.all C.data? = true ∧ ∀ b, G.own b = none → G0.own b = none ∧ G.use b ≤ G0.use b := by
      refine hc.imp (fun h => ?_) fun h => ⟨?_, h.2⟩
      · simp only [AV.own?] at h; rw [List.all_eq_true] at h; exact h _ (List.mem_of_getElem? hi)
      · have := h.1; simp only [AV.data?] at this; rw [List.all_eq_true] at this; exact this _ (List.mem_of_getElem? hi)
    refine ⟨x, hx, ?_⟩
    cases b with
    | true =>
      obtain ⟨xs, hxs, hrc⟩ := hrc
      exact ⟨xs, hxs, cells _ _ _ hcc hrc⟩
    | false => exact cells _ _ _ hcc hrc

open Classical in
/-- a contract serves every caller -/
theorem PC.call {P : Program} {f : Nat} {F : List AV → Option AV} (h : PC P f F) {d : Nat} {args la : List AV} {mem : Mem} {r : AV} (hl : args.mapM AV.lend = some la) (hF : F la = some r)
    (hr : (r.own? || (r.data? && args.all AV.shr?)) = true) : CallOK P d f args mem mem r := by
  refine ⟨h.1, fun G w vals hA hM => ?_⟩
  obtain ⟨hml, hmg⟩ := mapM_get hl
  have key : ∀ G0 : Gh, (∀ b t, G0.own b = some t → t = .foreign ∧ b < w.heap.size) → (∀ k, ¬ G0.live k) → (∀ b, G0.age b = 0) → (∀ b, G0.use b = G.use b) →
      ((∀ b, G0.own b = none) ∧ r.own? = true ∨ args.all AV.shr? = true ∧ r.data? = true ∧ (∀ b, G.own b = none ↔ G0.own b = none)) →
      Calls P f vals w fun e w' => ∃ v G', e = .returned v ∧ RA w' G' .ret r v ∧ MemOK d G' mem w' ∧ Frm (d + 1) G w G' w' := by
    intro G0 hflat hlive hage huse hcase
    have hA0 : ArgsOK w G0 la vals := by
      refine ⟨by rw [hA.1, hml], fun i y hi => ?_⟩
      obtain ⟨x, hx, hxy⟩ := hmg i y hi
      obtain ⟨v, hv, hra⟩ := hA.2 i x hx
      refine ⟨v, hv, fun d t => RA_lend hxy (hra d t) ?_⟩
      rcases hcase with ⟨h1, _⟩ | ⟨h1, _, h2⟩
      · exact .inl ⟨h1, fun b => by rw [huse]; exact Nat.le_refl _⟩
      · refine .inr ⟨?_, fun b hb => ⟨(h2 b).1 hb, by rw [huse]; exact Nat.le_refl _⟩⟩
        rw [List.all_eq_true] at h1
        exact h1 x (List.mem_of_getElem? hx)
    refine (h.2 la r hF G0 w vals hflat hlive hage hA0).mono fun e w' he => ?_
    obtain ⟨v, G0', rfl, hRA, hsz, hkept, hold, hwf⟩ := he
    let own' : Nat → Option Tag := fun b => if b < w.heap.size then G.own b else match G0'.own b with
      | some (.at .ret p) => some (.at .ret p)
      | none => none
      | _ => some .foreign
    let G' : Gh := { own := own', use := G0'.use, β := G.β, live := G.live, age := G.age, cap := G.cap }
    have ho : ∀ b, b < w.heap.size → G'.own b = G.own b := fun b hb => by show own' b = _; simp only [own', hb, if_true]
    have hu : ∀ b, b < w.heap.size → G'.use b = G.use b := fun b hb => by show G0'.use b = _; rw [(hold b hb).2.2, huse]
    have hnew : ∀ b t, G'.own b = some t → ¬ b < w.heap.size → b < w'.heap.size ∧ (∀ k, t ≠ .box k) ∧ (∀ k p, t ≠ .at (.cell k) p) ∧ t.dep d ≤ d := by
      intro b t hb hlt
      have hb : own' b = some t := hb
      simp only [own', hlt, if_false] at hb
      cases hg : G0'.own b with
      | none => rw [hg] at hb; cases hb
      | some t0 =>
        refine ⟨hwf b t0 hg, ?_⟩
        rw [hg] at hb
        split at hb
        · cases hb; exact ⟨fun k => by simp, fun k p => by simp, Nat.le_refl d⟩
        · cases hb
        · cases hb; exact ⟨fun k => by simp, fun k p => by simp, Nat.zero_le d⟩
    have hF' : Frm (d + 1) G w G' w' := {
      size := hsz
      kept := hkept
      same := fun b hb _ => ⟨(hold b hb).1, ho b hb, hu b hb⟩
      age := fun _ _ _ => rfl
      box := fun b hb _ hk => by rw [ho b hb]; exact hk
      use := fun b hb _ => by rw [hu b hb]; exact Nat.le_refl _
      cell := fun b off hb _ _ _ => by unfold World.cell?; simp only [(hold b hb).1]
      live := fun k hk _ => ⟨hk, rfl, rfl⟩ }
    refine ⟨v, G', rfl, RA_res hRA (fun b q hq => ?_) ?_, ?_, hF'⟩
    · have hb : ¬ b < w.heap.size := fun hb => by
        rw [(hold b hb).2.1] at hq
        have := (hflat b _ hq).1
        cases this
      exact ⟨by show own' b = _; simp only [own', hb, if_false, hq], rfl⟩
    · rcases hcase with ⟨_, h2⟩ | ⟨_, h2, h3⟩
      · exact .inl h2
      · refine .inr ⟨h2, fun b hb => ⟨?_, Nat.le_refl _⟩⟩
        by_cases hlt : b < w.heap.size
        · rw [ho b hlt, h3 b, ← (hold b hlt).2.1]; exact hb
        · show own' b = none
          simp only [own', hlt, if_false, hb]
    · have hH : ∀ o p, Hands w G w' G' o p o p fun _ => false := fun o p => {
        tag := fun b q hb ht => ⟨by rw [ho b hb]; exact ht, hu b hb, (hold b hb).1⟩
        nil := fun b hb hn => by rw [ho b hb]; exact hn
        box := fun b hb hk => by rw [ho b hb]; exact hk
        use := fun b hb _ => by rw [hu b hb]; exact Nat.le_refl _
        cell := fun b off hb _ _ => by unfold World.cell?; simp only [(hold b hb).1]
        live := fun k hk _ => ⟨hk, rfl, rfl⟩ }
      exact {
        cells := fun k cs hk hn2 => by
          obtain ⟨arr, e, h1, h2, h2c, h3⟩ := hM.cells k cs hk hn2
          have hb := hM.wf _ _ h2
          exact ⟨arr, e, by rw [← h1]; exact (hold _ hb).1, by rw [← h2]; exact ho _ hb, h2c, (hH _ _).rcs0 h3⟩
        live := hM.live
        dep := hM.dep
        wf := fun b t hb => by
          by_cases hlt : b < w.heap.size
          · omega
          · exact (hnew b t hb hlt).1
        wfb := fun b k hb => by
          by_cases hlt : b < w.heap.size
          · rw [ho b hlt] at hb; exact hM.wfb b k hb
          · exact absurd rfl ((hnew b _ hb hlt).2.1 k)
        wfc := fun b k p hb => by
          by_cases hlt : b < w.heap.size
          · rw [ho b hlt] at hb; exact hM.wfc b k p hb
          · exact absurd rfl ((hnew b _ hb hlt).2.2.1 k p)
        age := hM.age
        fut := fun b hb => hM.fut b (by omega)
        aged := fun b t hb => by
          by_cases hlt : b < w.heap.size
          · rw [ho b hlt] at hb; exact hM.aged b t hb
          · have := (hnew b t hb hlt).2.2.2
            have h2 : G'.age b = d := hM.fut b (by omega)
            omega }
  by_cases hro : r.own? = true
  · exact key { own := fun _ => none, use := G.use, β := G.β, live := fun _ => False, age := fun _ => 0, cap := G.cap } (fun b t hb => by cases hb) (fun _ h => h) (fun _ => rfl) (fun _ => rfl) (.inl ⟨fun _ => rfl, hro⟩)
  · simp only [Bool.or_eq_true, Bool.and_eq_true] at hr
    obtain ⟨h1, h2⟩ := hr.resolve_left hro
    refine key { own := fun b => (G.own b).map fun _ => .foreign, use := G.use, β := G.β, live := fun _ => False, age := fun _ => 0, cap := G.cap } (fun b t hb => ?_) (fun _ h => h) (fun _ => rfl) (fun _ => rfl) (.inr ⟨h2, h1, fun b => by simp⟩)
    simp only [Option.map_eq_some_iff] at hb
    obtain ⟨t0, ht0, rfl⟩ := hb
    exact ⟨rfl, hM.wf b t0 ht0⟩

end Go.Ev
