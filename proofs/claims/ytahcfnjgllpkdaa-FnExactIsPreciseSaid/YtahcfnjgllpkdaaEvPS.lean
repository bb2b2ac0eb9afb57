import Derived.Test.YtahcfnjgllpkdaaEvPR
set_option linter.unusedSimpArgs false
set_option linter.unusedVariables false
set_option linter.unnecessarySimpa false
namespace Go.Ev
/-! the loops that ask all places, and the loops that seek the first -/
def firstR {ρ υ : Type} (o : Option ρ) (u : υ) : ρ ⊕ υ := match o with | some r => .inl r | none => .inr u
theorem Tot.first {ρ υ : Type} {step : Int → Option (Int ⊕ (ρ ⊕ υ))} {Q : ρ ⊕ υ → Prop} (n : Nat) (F : Nat → Option ρ) (u : υ)
    (h : ∀ i : Nat, i < n → Tot (step i) (· = (match F i with | none => .inl ((i : Int) + 1) | some r => .inr (.inl r)))) (he : Tot (step n) (· = .inr (.inr u)))
    (hQ : Q (firstR ((List.range n).findSome? F) u)) : Tot (iter step 0) Q := by
  refine Tot.loop (fun i s => s = (i : Int) ∧ ∀ j, j < i → F j = none) n ⟨rfl, fun j hj => absurd hj (Nat.not_lt_zero _)⟩ fun i s hI hi => ?_
  obtain ⟨rfl, hI⟩ := hI
  by_cases hlt : i < n
  · refine (h i hlt).mono fun o ho => ?_
    subst ho
    cases hF : F i with
    | none =>
      refine ⟨hlt, rfl, fun j hj => ?_⟩
      by_cases hji : j = i
      · subst hji; exact hF
      · exact hI j (by omega)
    | some r =>
      have : (List.range n).findSome? F = some r := by
        rw [List.findSome?_eq_some_iff]
        refine ⟨List.range i, i, (List.range' (i + 1) (n - i - 1)), ?_, hF, fun j hj => hI j (List.mem_range.1 hj)⟩
        rw [List.range_eq_range', List.range_eq_range', ← List.range'_succ, show n - i - 1 + 1 = n - i by omega]
        have := @List.range'_append 0 i (n - i) 1
        simp only [Nat.one_mul, Nat.zero_add] at this
        rw [this]
        congr 1
        omega
      rw [this] at hQ
      exact hQ
  · have : i = n := by omega
    subst this
    refine he.mono fun o ho => ?_
    subst ho
    have : (List.range i).findSome? F = none := by
      rw [List.findSome?_eq_none_iff]
      exact fun j hj => hI j (List.mem_range.1 hj)
    rw [this] at hQ
    exact hQ
theorem findSome_all {ρ : Type} (p : Nat → Bool) (r : ρ) : ∀ xs : List Nat, xs.findSome? (fun i => if p i then none else some r) = if xs.all p then none else some r
  | [] => rfl
  | x :: xs => by
    rw [List.findSome?_cons, findSome_all p r xs]
    cases h : p x <;> simp [h]
theorem Tot.all {ρ υ : Type} {step : Int → Option (Int ⊕ (ρ ⊕ υ))} {Q : ρ ⊕ υ → Prop} (n : Nat) (p : Nat → Bool) (r : ρ) (u : υ)
    (h : ∀ i : Nat, i < n → Tot (step i) (· = (if p i then .inl ((i : Int) + 1) else .inr (.inl r)))) (he : Tot (step n) (· = .inr (.inr u)))
    (hQ : Q (if (List.range n).all p then .inr u else .inl r)) : Tot (iter step 0) Q := by
  refine Tot.first n (fun i => if p i then none else some r) u (fun i hi => ?_) he ?_
  · refine (h i hi).mono fun o ho => ?_
    rw [ho]
    cases p i <;> rfl
  · rw [findSome_all]
    cases h : (List.range n).all p <;> simpa [h, firstR] using hQ

/-! what is told with less -/
def wB (a b : Int) : Bool := decide (0 ≤ a ∧ a ≤ 2) && (decide (0 ≤ b ∧ b ≤ 2) && (decide (b = 1) || decide (a = b)))
theorem spec_isWithin (a b : Int) : spec_IsWithin a b = some (wB a b) := by
  unfold spec_IsWithin spec_IsTruth wB
  simp only [l1In_eq, Option.bind_some, cond_dec, eqI]
  by_cases h1 : 0 ≤ a ∧ a ≤ 2
  · rw [if_pos h1]
    by_cases h2 : 0 ≤ b ∧ b ≤ 2
    · rw [if_pos h2]
      by_cases h3 : b = 1
      · simp [h1, h3]
      · simp [h1, h2, h3]
    · rw [if_neg h2]; simp [h2]
  · rw [if_neg h1]; simp [h1]
theorem impl_isWithin (a b : Int) : impl_IsWithin a b = some (wB a b) := by rw [isWithin_eq, spec_isWithin]
def listW (a b : List Int) : Bool := decide (a.length = b.length) && (List.range a.length).all fun i => wB (a.getD i 0) (b.getD i 0)
theorem getD_at {α : Type} {xs : List α} {i : Nat} (h : i < xs.length) (d : α) : at? xs (i : Int) = some (xs.getD i d) := by
  rw [at_nat, List.getElem?_eq_getElem h]; simp [List.getD, h]
theorem spec_lists (a b : List Int) (ha : small a.length) : spec_l16Lists a b = some (listW a b) := by
  unfold small at ha
  unfold spec_l16Lists listW
  simp only [neI, cond_ndec]
  by_cases h : a.length = b.length
  · rw [if_pos (by omega)]
    simp only [h, decide_true, Bool.true_and]
    refine Tot.eq (Tot.bind (P := (· = if (List.range a.length).all (fun i => wB (a.getD i 0) (b.getD i 0)) then .inr () else .inl ())) (Tot.all a.length (fun i => wB (a.getD i 0) (b.getD i 0)) () () (fun i hi => ?_) ?_ (by simp)) fun r hr => ?_)
    · rw [← h]
      simp only [ltI, cond_dec, getD_at hi 0, getD_at (show i < b.length by omega) 0, Option.bind_some, spec_isWithin]
      rw [if_pos (by omega), addI_eq (by omega) (by omega)]
      cases wB (a.getD i 0) (b.getD i 0) <;> exact Tot.ret rfl
    · rw [← h]
      simp only [ltI, cond_dec]
      rw [if_neg (by omega)]
      exact Tot.ret rfl
    · subst hr
      rw [h]
      cases (List.range b.length).all (fun i => wB (a.getD i 0) (b.getD i 0)) <;> exact Tot.ret rfl
  · rw [if_neg (by omega)]
    simp [h]
theorem impl_equalFunc (a b : List Int) (ha : small a.length) : slices_EqualFunc_intint_int_int_ a b (fun x0 x1 => impl_IsWithin x0 x1) = some (listW a b) := by
  rw [← spec_lists a b ha, isWithin_eq]
  rfl
def zN : TNode := ⟨[], [], 0, 0⟩
def nodeW (x y : TNode) : Bool := listW x.vars y.vars && (listW x.reach y.reach && (wB x.shared y.shared && wB x.many y.many))
def okN (x : TNode) : Prop := small x.vars.length ∧ small x.reach.length
theorem spec_node (x y : TNode) (hx : okN x) : spec_l16Node x y = some (nodeW x y) := by
  unfold spec_l16Node nodeW
  rw [spec_lists _ _ hx.1, spec_lists _ _ hx.2, spec_isWithin, spec_isWithin]
  cases listW x.vars y.vars <;> cases listW x.reach y.reach <;> cases wB x.shared y.shared <;> rfl
theorem impl_node (x y : TNode) (hx : okN x) : impl_isWithinNode x y = some (nodeW x y) := by
  unfold impl_isWithinNode nodeW
  rw [impl_equalFunc _ _ hx.1, impl_equalFunc _ _ hx.2, impl_isWithin, impl_isWithin]
  cases listW x.vars y.vars <;> cases listW x.reach y.reach <;> cases wB x.shared y.shared <;> rfl
def nextV (s : TStructure) (i j : Int) : Int :=
  if 0 ≤ i ∧ i ≤ (s.nodes.length : Int) - 1 then if 0 ≤ j ∧ j ≤ (s.nodes.length : Int) - 1 then if s.next.length = s.nodes.length * s.nodes.length then s.next.getD (i * s.nodes.length + j).toNat 0 else 1 else 1 else 1
theorem sq_small {n : Nat} (h : small n) : n * n ≤ 16000000000000 := Nat.le_trans (Nat.mul_le_mul h h) (by decide)
theorem place_in {n : Nat} {i j : Int} (hi : 0 ≤ i ∧ i ≤ (n : Int) - 1) (hj : 0 ≤ j ∧ j ≤ (n : Int) - 1) : 0 ≤ i * n ∧ i * n + j < ((n * n : Nat) : Int) := by
  have h1 : i * n ≤ ((n : Int) - 1) * n := Int.mul_le_mul_of_nonneg_right hi.2 (by omega)
  have h2 : 0 ≤ i * (n : Int) := Int.mul_nonneg hi.1 (by omega)
  rw [Int.sub_mul, Int.one_mul] at h1
  have h3 : ((n * n : Nat) : Int) = (n : Int) * n := by simp
  omega
theorem spec_nextOf (s : TStructure) (i j : Int) (hs : small s.nodes.length) : spec_NextOf s i j = some (nextV s i j) := by
  unfold spec_NextOf nextV
  have hq := sq_small hs
  have hs' := hs
  unfold small at hs'
  rw [l1In_eq, l1In_eq, subI_eq (by omega) (by omega)]
  have h3 : ((s.nodes.length * s.nodes.length : Nat) : Int) = (s.nodes.length : Int) * s.nodes.length := by simp
  rw [mulI_eq (by omega) (by omega)]
  simp only [Option.bind_some, cond_dec, neI, cond_ndec]
  by_cases hi : 0 ≤ i ∧ i ≤ (s.nodes.length : Int) - 1
  · rw [if_pos hi, if_pos hi]
    by_cases hj : 0 ≤ j ∧ j ≤ (s.nodes.length : Int) - 1
    · rw [if_pos hj, if_pos hj]
      by_cases hn : s.next.length = s.nodes.length * s.nodes.length
      · obtain ⟨p1, p2⟩ := place_in hi hj
        rw [if_pos (by omega), if_pos hn, mulI_eq (by omega) (by omega), addI_eq (by omega) (by omega), at_in (by omega)]
        rfl
      · rw [if_neg (by omega), if_neg hn]
    · rw [if_neg hj, if_neg hj]
  · rw [if_neg hi, if_neg hi]
theorem impl_nextOf (s : TStructure) (i j : Int) (hs : small s.nodes.length) : impl_NextOf s i j = some (nextV s i j) := by
  rw [← spec_nextOf s i j hs]
  unfold impl_NextOf spec_NextOf impl_Structure_isNode
  simp only [within_eq, l1In_eq, Option.bind_some]
/-- one round of the test of a place -/
def roundB (s t : TStructure) (to : List Int) (j : Nat) : Bool :=
  wB (nextV s ((to.length : Int) - 1) j) (nextV t (lastI to) (to.getD j 0)) && (wB (nextV s j ((to.length : Int) - 1)) (nextV t (to.getD j 0) (lastI to)) && !(decide (j + 1 < to.length) && (decide (to.getD j 0 = lastI to) && !decide ((t.nodes.getD (lastI to).toNat zN).many = 1))))
def fitB (s t : TStructure) (to : List Int) : Bool := nodeW (s.nodes.getD (to.length - 1) zN) (t.nodes.getD (lastI to).toNat zN) && (List.range to.length).all (roundB s t to)
def okS (s : TStructure) : Prop := small s.nodes.length ∧ ∀ n ∈ s.nodes, okN n
theorem at_in' {α : Type} {xs : List α} {c : Int} (h : 0 ≤ c ∧ c < (xs.length : Int)) (d : α) : at? xs c = some (xs.getD c.toNat d) := by
  unfold at?
  rw [if_pos h.1]
  have : c.toNat < xs.length := by omega
  simp [List.getD, List.getElem?_eq_getElem this]
theorem okS_at {s : TStructure} (h : okS s) (i : Nat) : okN (s.nodes.getD i zN) := by
  by_cases hi : i < s.nodes.length
  · have := h.2 _ (List.getElem_mem hi)
    simpa [List.getD, List.getElem?_eq_getElem hi] using this
  · have : s.nodes.getD i zN = zN := by simp [List.getD, List.getElem?_eq_none (Nat.le_of_not_lt hi)]
    rw [this]
    unfold okN small zN
    simp
theorem spec_fits (s t : TStructure) (to : List Int) (hs : okS s) (ht : small t.nodes.length) (h0 : to ≠ []) (hl : to.length ≤ s.nodes.length) (hr : ∀ x ∈ to, 0 ≤ x ∧ x < (t.nodes.length : Int)) : spec_l16Fits s t to = some (fitB s t to) := by
  unfold spec_l16Fits fitB
  have hpos : 0 < to.length := List.length_pos_iff.2 h0
  have hs1 := hs.1
  have hsl : small to.length := Nat.le_trans hl hs1
  have hsl' := hsl
  unfold small at hsl' ht hs1
  have hx := hr _ (lastI_mem h0)
  rw [lastI_at h0 hsl, subI_eq (by omega) (by omega)]
  simp only [Option.bind_some, at_in' hx zN]
  have h1 : at? s.nodes ((to.length : Int) - 1) = some (s.nodes.getD (to.length - 1) zN) := by
    rw [at_in' (by omega) zN, show ((to.length : Int) - 1).toNat = to.length - 1 by omega]
  simp only [h1, Option.bind_some, spec_node _ _ (okS_at hs _)]
  cases hn : nodeW (s.nodes.getD (to.length - 1) zN) (t.nodes.getD (lastI to).toNat zN) with
  | false => rfl
  | true =>
    simp only [cond_true, Bool.true_and]
    refine Tot.eq (Tot.bind (P := (· = if (List.range to.length).all (roundB s t to) then .inr () else .inl ())) (Tot.all to.length (roundB s t to) () () (fun i hi => ?_) ?_ rfl) fun r hr => ?_)
    · simp only [leI, ltI, eqI, neI, cond_dec, cond_ndec, getD_at hi 0, Option.bind_some, spec_isWithin, spec_nextOf s _ _ hs.1, spec_nextOf t _ _ ht]
      rw [if_pos (by omega), addI_eq (by omega) (by omega)]
      unfold roundB
      cases wB (nextV s ((to.length : Int) - 1) i) (nextV t (lastI to) (to.getD i 0)) with
      | false => exact Tot.ret rfl
      | true =>
        cases wB (nextV s i ((to.length : Int) - 1)) (nextV t (to.getD i 0) (lastI to)) with
        | false => exact Tot.ret rfl
        | true =>
          simp only [cond_true, Bool.true_and]
          by_cases h2 : i + 1 < to.length
          · rw [if_pos (by omega)]
            by_cases h3 : to.getD i 0 = lastI to
            · rw [if_pos h3]
              by_cases h4 : (t.nodes.getD (lastI to).toNat zN).many = 1
              · rw [if_pos h4]; exact Tot.ret (by rw [decide_eq_true h2, decide_eq_true h3, decide_eq_true h4]; rfl)
              · rw [if_neg h4]; exact Tot.ret (by rw [decide_eq_true h2, decide_eq_true h3, decide_eq_false h4]; rfl)
            · rw [if_neg h3]; exact Tot.ret (by rw [decide_eq_true h2, decide_eq_false h3]; rfl)
          · rw [if_neg (by omega)]; exact Tot.ret (by rw [decide_eq_false h2]; rfl)
    · simp only [leI, cond_dec]
      rw [if_neg (by omega)]
      exact Tot.ret rfl
    · subst hr
      cases (List.range to.length).all (roundB s t to) <;> exact Tot.ret rfl
theorem impl_fits (s t : TStructure) (to : List Int) (hs : okS s) (ht : small t.nodes.length) (h0 : to ≠ []) (hl : to.length ≤ s.nodes.length) (hr : ∀ x ∈ to, 0 ≤ x ∧ x < (t.nodes.length : Int)) : impl_fitsSoFar s t to = some (fitB s t to) := by
  unfold impl_fitsSoFar fitB impl_Structure_isNode
  have hpos : 0 < to.length := List.length_pos_iff.2 h0
  have hs1 := hs.1
  have hsl : small to.length := Nat.le_trans hl hs1
  have hsl' := hsl
  unfold small at hsl' ht hs1
  have hx := hr _ (lastI_mem h0)
  rw [lastI_at h0 hsl, subI_eq (a := (to.length : Int)) (by omega) (by omega), subI_eq (a := (t.nodes.length : Int)) (by omega) (by omega)]
  simp only [Option.bind_some, within_eq, at_in' hx zN, cond_dec]
  rw [if_pos (by omega)]
  have h1 : at? s.nodes ((to.length : Int) - 1) = some (s.nodes.getD (to.length - 1) zN) := by
    rw [at_in' (by omega) zN, show ((to.length : Int) - 1).toNat = to.length - 1 by omega]
  have hA : at? to ((to.length : Int) - 1) = some (lastI to) := by
    have := lastI_at h0 hsl
    rwa [subI_eq (by omega) (by omega)] at this
  simp only [h1, hA, Option.bind_some, impl_node _ _ (okS_at hs _)]
  cases hn : nodeW (s.nodes.getD (to.length - 1) zN) (t.nodes.getD (lastI to).toNat zN) with
  | false => rfl
  | true =>
    simp only [cond_true, Bool.true_and]
    refine Tot.eq (Tot.bind (P := (· = if (List.range to.length).all (roundB s t to) then .inr () else .inl ())) (Tot.all to.length (roundB s t to) () () (fun i hi => ?_) ?_ rfl) fun r hr => ?_)
    · simp only [leI, ltI, eqI, neI, cond_dec, cond_ndec, getD_at hi 0, Option.bind_some, impl_isWithin, impl_nextOf s _ _ hs.1, impl_nextOf t _ _ ht]
      rw [if_pos (by omega), addI_eq (by omega) (by omega)]
      unfold roundB
      by_cases h2 : i + 1 < to.length
      · rw [if_pos (by omega), decide_eq_true h2]
        by_cases h3 : to.getD i 0 = lastI to
        · rw [if_pos h3, decide_eq_true h3, h3]
          simp only [at_in' hx zN, Option.bind_some]
          by_cases h4 : (t.nodes.getD (lastI to).toNat zN).many = 1
          · rw [if_pos h4, decide_eq_true h4]
            cases wB (nextV s ((to.length : Int) - 1) i) (nextV t (lastI to) (lastI to)) <;> cases wB (nextV s i ((to.length : Int) - 1)) (nextV t (lastI to) (lastI to)) <;> exact Tot.ret rfl
          · rw [if_neg h4, decide_eq_false h4]
            cases wB (nextV s ((to.length : Int) - 1) i) (nextV t (lastI to) (lastI to)) <;> cases wB (nextV s i ((to.length : Int) - 1)) (nextV t (lastI to) (lastI to)) <;> exact Tot.ret rfl
        · rw [if_neg h3, decide_eq_false h3]
          cases wB (nextV s ((to.length : Int) - 1) i) (nextV t (lastI to) (to.getD i 0)) <;> cases wB (nextV s i ((to.length : Int) - 1)) (nextV t (to.getD i 0) (lastI to)) <;> exact Tot.ret rfl
      · rw [if_neg (by omega), decide_eq_false h2]
        cases wB (nextV s ((to.length : Int) - 1) i) (nextV t (lastI to) (to.getD i 0)) <;> cases wB (nextV s i ((to.length : Int) - 1)) (nextV t (to.getD i 0) (lastI to)) <;> exact Tot.ret rfl
    · simp only [ltI, cond_dec]
      rw [if_neg (by omega)]
      exact Tot.ret rfl
    · subst hr
      cases (List.range to.length).all (roundB s t to) <;> exact Tot.ret rfl
end Go.Ev
