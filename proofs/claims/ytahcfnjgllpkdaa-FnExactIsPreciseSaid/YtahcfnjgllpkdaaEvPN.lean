import Derived.Test.YtahcfnjgllpkdaaEvPM
set_option linter.unusedSimpArgs false
set_option linter.unusedVariables false
set_option linter.unnecessarySimpa false
namespace Go.Ev
/-! total runs: an answer is there, and it is so -/
def Tot {α : Type} (o : Option α) (Q : α → Prop) : Prop := ∃ a, o = some a ∧ Q a
theorem Tot.ret {α : Type} {a : α} {Q : α → Prop} (h : Q a) : Tot (some a) Q := ⟨a, rfl, h⟩
theorem Tot.bind {α β : Type} {o : Option α} {f : α → Option β} {P : α → Prop} {Q : β → Prop} (h : Tot o P) (hf : ∀ a, P a → Tot (f a) Q) : Tot (o.bind f) Q := by
  obtain ⟨a, rfl, hP⟩ := h
  exact hf a hP
theorem Tot.bindE {α β : Type} {o : Option α} {a : α} {f : α → Option β} {Q : β → Prop} (h : o = some a) (hf : Tot (f a) Q) : Tot (o.bind f) Q := by
  subst h; exact hf
theorem Tot.mono {α : Type} {o : Option α} {P Q : α → Prop} (h : Tot o P) (hq : ∀ a, P a → Q a) : Tot o Q := by
  obtain ⟨a, h1, h2⟩ := h
  exact ⟨a, h1, hq a h2⟩
theorem Tot.eq {α : Type} {o : Option α} {a : α} (h : Tot o (· = a)) : o = some a := by
  obtain ⟨b, h1, rfl⟩ := h
  exact h1
theorem Tot.of {α : Type} {o : Option α} {a : α} {Q : α → Prop} (h : o = some a) (hq : Q a) : Tot o Q := ⟨a, h, hq⟩
/-- a loop of at most n rounds -/
theorem Tot.loop {σ ρ : Type} {step : σ → Option (σ ⊕ ρ)} {Q : ρ → Prop} (I : Nat → σ → Prop) (n : Nat) {s : σ} (h0 : I 0 s)
    (h : ∀ i s, I i s → i ≤ n → Tot (step s) (Sum.elim (fun s' => i < n ∧ I (i + 1) s') Q)) : Tot (iter step s) Q := by
  have key : ∀ (k i : Nat) (s : σ), I i s → i + k = n → Tot (iter step s) Q := by
    intro k
    induction k with
    | zero =>
      intro i s hI hk
      obtain ⟨o, ho, hq⟩ := h i s hI (by omega)
      cases o with
      | inl s' => exact absurd hq.1 (by omega)
      | inr r => exact ⟨r, iter_inr ho, hq⟩
    | succ k ih =>
      intro i s hI hk
      obtain ⟨o, ho, hq⟩ := h i s hI (by omega)
      cases o with
      | inl s' => rw [iter_inl ho]; exact ih (i + 1) s' hq.2 (by omega)
      | inr r => exact ⟨r, iter_inr ho, hq⟩
  exact key n 0 s h0 (by omega)
/-- a loop that puts pieces behind one another -/
theorem loop_flat {α γ σ : Type} (S : List γ → Int → σ) (lo : Int) (xs : List α) (g : α → List γ) {acc : List γ} {step : σ → Option (σ ⊕ List γ)}
    (h : ∀ (i : Nat) x b, xs[i]? = some x → b.length + (g x).length ≤ acc.length + (xs.flatMap g).length → step (S b (lo + i)) = some (.inl (S (b ++ g x) (lo + i + 1))))
    (he : ∀ b, step (S b (lo + xs.length)) = some (.inr b)) : iter step (S acc lo) = some (acc ++ xs.flatMap g) := by
  have key : ∀ (suf : List α) (i : Nat) (b : List γ), xs.drop i = suf → i + suf.length = xs.length → b.length + (suf.flatMap g).length = acc.length + (xs.flatMap g).length →
      iter step (S b (lo + i)) = some (b ++ suf.flatMap g) := by
    intro suf
    induction suf with
    | nil =>
      intro i b _ hi _
      simp only [List.length_nil, Nat.add_zero] at hi
      subst hi
      rw [iter_inr (he b)]; simp
    | cons x suf ih =>
      intro i b hd hi hb
      have hx : xs[i]? = some x := by
        have := congrArg (fun l => l[0]?) hd
        simpa using this
      have hd2 : xs.drop (i + 1) = suf := by
        have := congrArg List.tail hd
        simpa using this
      simp only [List.length_cons] at hi
      simp only [List.flatMap_cons, List.length_append] at hb
      rw [iter_inl (h i x b hx (by omega))]
      have := ih (i + 1) (b ++ g x) hd2 (by omega) (by simp only [List.length_append]; omega)
      rw [show lo + (i : Int) + 1 = lo + ((i + 1 : Nat) : Int) by omega, this]
      simp
  have := key xs 0 acc rfl (by simp) rfl
  simpa using this
/-- two loops that go alike -/
theorem iter_congr {σ ρ : Type} {step step' : σ → Option (σ ⊕ ρ)} (I : σ → Prop) (h : ∀ s, I s → step s = step' s ∧ ∀ s', step s = some (.inl s') → I s') {s : σ} (h0 : I s) : iter step s = iter step' s := by
  have key : ∀ (n : Nat) (s : σ), I s → iterN step n s = iterN step' n s := by
    intro n
    induction n with
    | zero => intro s _; rfl
    | succ n ih =>
      intro s hs
      obtain ⟨h1, h2⟩ := h s hs
      rw [iterN, iterN, ← h1]
      cases ho : step s with
      | none => rfl
      | some o =>
        cases o with
        | inl s' => exact ih s' (h2 s' ho)
        | inr r => rfl
  unfold iter
  congr 1
  funext n
  exact key n s h0

/-! orbits -/
def nx (next : List Int) (c : Int) : Int := if c = -1 then -1 else next.getD c.toNat 0
def orb (next : List Int) : Nat → Int → Int
  | 0, c => c
  | k + 1, c => nx next (orb next k c)
def orbs (next : List Int) (c : Int) (m : Nat) : List Int := (List.range m).map fun k => orb next k c
theorem orb_add (next : List Int) (c : Int) : ∀ a b, orb next (a + b) c = orb next a (orb next b c)
  | 0, b => by simp [orb]
  | a + 1, b => by rw [show a + 1 + b = (a + b) + 1 by omega, orb, orb_add next c a b, orb]
theorem orb_stop (next : List Int) : ∀ k, orb next k (-1) = -1
  | 0 => rfl
  | k + 1 => by rw [orb, orb_stop next k]; simp [nx]
def Cells (next : List Int) : Prop := ∀ x ∈ next, -1 ≤ x ∧ x < (next.length : Int)
theorem nx_in {next : List Int} (hC : Cells next) {c : Int} (h : -1 ≤ c ∧ c < (next.length : Int)) : -1 ≤ nx next c ∧ nx next c < (next.length : Int) := by
  unfold nx
  split
  · omega
  · have hlt : c.toNat < next.length := by omega
    have := hC _ (List.getElem_mem hlt)
    simpa [List.getD, List.getElem?_eq_getElem hlt] using this
theorem orb_in {next : List Int} (hC : Cells next) {c : Int} (h : -1 ≤ c ∧ c < (next.length : Int)) : ∀ k, -1 ≤ orb next k c ∧ orb next k c < (next.length : Int)
  | 0 => h
  | k + 1 => nx_in hC (orb_in hC h k)
theorem orbs_succ (next : List Int) (c : Int) (m : Nat) : orbs next c (m + 1) = orbs next c m ++ [orb next m c] := by simp [orbs, List.range_succ]
theorem orbs_mem {next : List Int} {c x : Int} {m : Nat} : x ∈ orbs next c m ↔ ∃ k, k < m ∧ orb next k c = x := by simp [orbs]
theorem fol_orb {next : List Int} (hC : Cells next) {c : Int} (hc : -1 ≤ c ∧ c < (next.length : Int)) : ∀ (f m : Nat), Seen next (orbs next c m) → next.length + 1 ≤ f + m →
    ∃ m', fol next f (orb next m c) (orbs next c m) = .inl (orbs next c m') ∧ (orb next m' c = -1 ∨ ∃ k, k < m' ∧ orb next k c = orb next m' c)
  | 0, m, hS, hf => by
    have := hS.len
    simp only [orbs, List.length_map, List.length_range] at this
    omega
  | f + 1, m, hS, hf => by
    rw [fol]
    by_cases h1 : orb next m c = -1
    · exact ⟨m, by simp [h1], .inl h1⟩
    · rw [if_neg h1]
      by_cases h2 : orb next m c ∈ orbs next c m
      · exact ⟨m, by simp [h2], .inr (orbs_mem.1 h2)⟩
      · have h3 := orb_in hC hc m
        have h4 : 0 ≤ orb next m c ∧ orb next m c < (next.length : Int) := by omega
        rw [if_neg h2, if_pos h4, ← orbs_succ]
        have hn : next.getD (orb next m c).toNat 0 = orb next (m + 1) c := by rw [orb, nx, if_neg h1]
        rw [hn]
        exact fol_orb hC hc f (m + 1) (by rw [orbs_succ]; exact hS.push h2 h4) (by omega)
theorem folL_orb {next : List Int} (hC : Cells next) {c : Int} (hc : -1 ≤ c ∧ c < (next.length : Int)) : ∃ m, folL next c = orbs next c m ∧ (orb next m c = -1 ∨ ∃ k, k < m ∧ orb next k c = orb next m c) := by
  obtain ⟨m, h1, h2⟩ := fol_orb hC hc (next.length + 1) 0 ⟨by simp [orbs], by simp [orbs]⟩ (by omega)
  refine ⟨m, ?_, h2⟩
  unfold folL
  have : fol next (next.length + 1) c [] = .inl (orbs next c m) := by simpa [orbs, orb] using h1
  rw [this]
  rfl
theorem folL_mem {next : List Int} (hC : Cells next) {c : Int} (hc : -1 ≤ c ∧ c < (next.length : Int)) : ∀ (k : Nat), orb next k c ≠ -1 → orb next k c ∈ folL next c := by
  obtain ⟨m, h1, h2⟩ := folL_orb hC hc
  rw [h1]
  intro k
  induction k using Nat.strongRecOn with
  | _ k ih =>
    intro hk
    by_cases hlt : k < m
    · exact orbs_mem.2 ⟨k, hlt, rfl⟩
    · have e : orb next k c = orb next (k - m) (orb next m c) := by rw [← orb_add]; congr 1; omega
      rcases h2 with h2 | ⟨j, hj, h2⟩
      · rw [e, h2, orb_stop] at hk
        exact absurd rfl hk
      · rw [← h2, ← orb_add] at e
        rw [e] at hk ⊢
        exact ih _ (by omega) hk
theorem orb_per {next : List Int} {i : Int} {p : Nat} (h : orb next p i = i) : ∀ q, orb next (q * p) i = i
  | 0 => by simp [orb]
  | q + 1 => by rw [Nat.add_mul, Nat.one_mul, orb_add, h, orb_per h q]
/-- the heap's arrows make a ring -/
def cyc (next : List Int) : Bool := (List.range next.length).any fun i => decide ((i : Int) ∈ folL next (nx next i))
def lastI (xs : List Int) : Int := xs.getD (xs.length - 1) 0
theorem acyc_iff {next : List Int} (hC : Cells next) : (∀ i : Nat, i < next.length → folL next i ≠ [] ∧ nx next (lastI (folL next i)) = -1) ↔ cyc next = false := by
  have hlast : ∀ i : Nat, i < next.length → ∃ m, folL next i = orbs next i (m + 1) ∧ nx next (lastI (folL next i)) = orb next (m + 1) i ∧ (orb next (m + 1) i = -1 ∨ ∃ k, k < m + 1 ∧ orb next k i = orb next (m + 1) i) := by
    intro i hi
    obtain ⟨m, h1, h2⟩ := folL_orb hC (c := i) (by omega)
    cases m with
    | zero =>
      rcases h2 with h2 | ⟨k, hk, _⟩
      · simp only [orb] at h2; omega
      · omega
    | succ m =>
      refine ⟨m, h1, ?_, h2⟩
      rw [h1]
      have : lastI (orbs next i (m + 1)) = orb next m i := by
        unfold lastI
        rw [orbs_succ]
        simp [List.getD]
      rw [this]
      rfl
  constructor
  · intro hA
    unfold cyc
    rw [List.any_eq_false]
    intro i hi
    simp only [List.mem_range] at hi
    simp only [decide_eq_true_eq]
    intro hm
    obtain ⟨m, _, h2, _⟩ := hlast i hi
    have h3 := (hA i hi).2
    rw [h2] at h3
    obtain ⟨m', h4, _⟩ := folL_orb hC (nx_in hC (c := i) (by omega))
    rw [h4, orbs_mem] at hm
    obtain ⟨k, _, hk⟩ := hm
    have h5 : orb next (k + 1) i = i := by rw [orb_add]; exact hk
    have h6 := orb_per h5 (m + 1)
    have h7 : orb next ((m + 1) * (k + 1)) i = orb next ((m + 1) * k) (orb next (m + 1) i) := by rw [← orb_add]; congr 1
    rw [h7, h3, orb_stop] at h6
    omega
  · intro hB i hi
    obtain ⟨m, h1, h2, h3⟩ := hlast i hi
    refine ⟨by rw [h1]; simp [orbs], ?_⟩
    rw [h2]
    rcases h3 with h3 | ⟨k, hk, h3⟩
    · exact h3
    · exfalso
      have hS : Seen next (orbs next i (m + 1)) := h1 ▸ folL_seen next i
      have hj := hS.rng (orb next m i) (orbs_mem.2 ⟨m, by omega, rfl⟩)
      have hB' := (List.any_eq_false.1 hB) (orb next m i).toNat (by simp only [List.mem_range]; omega)
      simp only [decide_eq_true_eq] at hB'
      rw [show ((orb next m i).toNat : Int) = orb next m i by omega] at hB'
      apply hB'
      have e1 : nx next (orb next m i) = orb next k i := h3.symm
      have e2 : orb next m i = orb next (m - k) (orb next k i) := by rw [← orb_add]; congr 1; omega
      rw [e1]
      have := folL_mem hC (orb_in hC (c := i) (by omega) k) (m - k) (by rw [← e2]; omega)
      rw [← e2] at this
      exact this
theorem small_fol {next : List Int} (hs : small next.length) (c : Int) : small (folL next c).length := Nat.le_trans (folL_len next c) hs
theorem impl_cyclic (h : THeap) (hs : small h.next.length) (hC : Cells h.next) : impl_Heap_isCyclic h = some (cyc h.next) := by
  unfold impl_Heap_isCyclic
  have hs' := hs
  unfold small at hs'
  have key : Tot (iter (ρ := (Bool) ⊕ (Unit)) (fun s_1 : Int =>
      cond (ltI s_1 (h.next.length : Int))
        ((at? h.next s_1).bind fun e_12 =>
          (impl_Followed h e_12).bind fun y_17 =>
            (slices_Contains_int y_17 s_1).bind fun y_20 =>
              cond y_20
                (some (.inr (.inl true)))
                (some (.inl (addI s_1 1))))
        (some (.inr (.inr ())))) 0) (fun r => Sum.elim (fun r => some r) (fun _ => some false) r = some (cyc h.next)) := by
    refine Tot.loop (fun i s => s = (i : Int) ∧ ∀ j : Nat, j < i → ¬ (j : Int) ∈ folL h.next (nx h.next j)) h.next.length ⟨rfl, fun j hj => absurd hj (Nat.not_lt_zero _)⟩ fun i s hI hi => ?_
    obtain ⟨rfl, hI⟩ := hI
    simp only [ltI, cond_dec, at_nat]
    by_cases hlt : i < h.next.length
    · have hn : nx h.next i = h.next[i] := by unfold nx; rw [if_neg (by omega)]; simp [List.getD, hlt]
      rw [if_pos (by omega), List.getElem?_eq_getElem hlt, addI_eq (by omega) (by omega)]
      simp only [Option.bind_some, impl_followed h hs, contains_int _ _ (small_fol hs _), ← hn]
      by_cases hm : (i : Int) ∈ folL h.next (nx h.next i)
      · simp only [hm, decide_true, cond_true]
        refine Tot.ret ?_
        simp only [Sum.elim_inr, Sum.elim_inl, Option.some.injEq]
        exact (List.any_eq_true.2 ⟨i, List.mem_range.2 hlt, by simpa using hm⟩).symm
      · simp only [hm, decide_false, cond_false]
        refine Tot.ret ⟨hlt, by simp, fun j hj => ?_⟩
        by_cases hji : j = i
        · subst hji; exact hm
        · exact hI j (by omega)
    · rw [if_neg (by omega)]
      refine Tot.ret ?_
      simp only [Sum.elim_inr, Option.some.injEq]
      refine (List.any_eq_false.2 fun j hj => ?_).symm
      have := hI j (by have := List.mem_range.1 hj; omega)
      simpa using this
  obtain ⟨r, h1, h2⟩ := key
  rw [h1]
  exact h2
theorem lastI_at {xs : List Int} (h : xs ≠ []) (hl : small xs.length) : at? xs (subI (xs.length : Int) 1) = some (lastI xs) := by
  have : 0 < xs.length := List.length_pos_iff.2 h
  unfold small at hl
  rw [subI_eq (by omega) (by omega)]
  unfold at? lastI
  rw [if_pos (by omega), show ((xs.length : Int) - 1).toNat = xs.length - 1 by omega]
  rw [List.getElem?_eq_getElem (by omega)]
  simp [List.getD, List.getElem?_eq_getElem (show xs.length - 1 < xs.length by omega)]
theorem lastI_mem {xs : List Int} (h : xs ≠ []) : lastI xs ∈ xs := by
  have : 0 < xs.length := List.length_pos_iff.2 h
  unfold lastI
  simp [List.getD, List.getElem?_eq_getElem (show xs.length - 1 < xs.length by omega)]
theorem spec_acyclic (h : THeap) (hs : small h.next.length) (hC : Cells h.next) : spec_l7Acyclic h = some (!cyc h.next) := by
  unfold spec_l7Acyclic
  have hs' := hs
  unfold small at hs'
  have key : Tot (iter (ρ := (Unit) ⊕ (Unit)) (fun s_1 : Int =>
      cond (ltI s_1 (h.next.length : Int))
        ((spec_Followed h s_1).bind fun y_11 =>
          cond (eqI (y_11.length : Int) 0)
            (some (.inr (.inl ())))
            ((at? y_11 (subI (y_11.length : Int) 1)).bind fun e_15 =>
              (at? h.next e_15).bind fun e_20 =>
                cond (neI e_20 (-1))
                  (some (.inr (.inl ())))
                  (some (.inl (addI s_1 1)))))
        (some (.inr (.inr ())))) 0) (fun r => Sum.elim (fun _ => some false) (fun _ => some true) r = some (!cyc h.next)) := by
    refine Tot.loop (fun i s => s = (i : Int) ∧ ∀ j : Nat, j < i → folL h.next j ≠ [] ∧ nx h.next (lastI (folL h.next j)) = -1) h.next.length ⟨rfl, fun j hj => absurd hj (Nat.not_lt_zero _)⟩ fun i s hI hi => ?_
    obtain ⟨rfl, hI⟩ := hI
    simp only [ltI, cond_dec]
    by_cases hlt : i < h.next.length
    · rw [if_pos (by omega), addI_eq (by omega) (by omega)]
      simp only [Option.bind_some, spec_followed h hs, eqI, neI, cond_dec, cond_ndec]
      by_cases he : folL h.next i = []
      · rw [if_pos (by simp [he])]
        refine Tot.ret ?_
        simp only [Sum.elim_inr, Sum.elim_inl, Option.some.injEq]
        cases hc : cyc h.next with
        | true => rfl
        | false => exact absurd he ((acyc_iff hC).2 hc i hlt).1
      · have hpos : 0 < (folL h.next i).length := List.length_pos_iff.2 he
        rw [if_neg (by omega), lastI_at he (small_fol hs _)]
        simp only [Option.bind_some]
        have hr := (folL_seen h.next i).rng _ (lastI_mem he)
        have hn : at? h.next (lastI (folL h.next i)) = some (nx h.next (lastI (folL h.next i))) := by
          rw [at_in hr, nx, if_neg (by omega)]
        rw [hn]
        simp only [Option.bind_some]
        by_cases hm : nx h.next (lastI (folL h.next i)) = -1
        · rw [if_pos hm]
          refine Tot.ret ⟨hlt, by simp, fun j hj => ?_⟩
          by_cases hji : j = i
          · subst hji; exact ⟨he, hm⟩
          · exact hI j (by omega)
        · rw [if_neg hm]
          refine Tot.ret ?_
          simp only [Sum.elim_inr, Sum.elim_inl, Option.some.injEq]
          cases hc : cyc h.next with
          | true => rfl
          | false => exact absurd ((acyc_iff hC).2 hc i hlt).2 hm
    · rw [if_neg (by omega)]
      refine Tot.ret ?_
      simp only [Sum.elim_inr, Option.some.injEq]
      rw [(acyc_iff hC).1 fun j hj => hI j (by omega)]
      rfl
  obtain ⟨r, h1, h2⟩ := key
  rw [h1]
  exact h2
end Go.Ev
