import Derived.Test.YtahcfnjgllpkdaaEvA11
import Derived.Test.YtahcfnjgllpkdaaEvA9
import Derived.Test.YtahcfnjgllpkdaaEvA10
set_option linter.unusedSimpArgs false
set_option linter.unusedVariables false
set_option linter.unnecessarySimpa false
namespace Go.Ev
/-! the loops that ask all places, and the loops that seek the first -/
def firstR {ρ υ : Type} (o : Option ρ) (u : υ) : ρ ⊕ υ := match o with | some r => .inl r | none => .inr u
theorem Tot.first {ρ υ : Type} {step : Int → Option (Int ⊕ (ρ ⊕ υ))} {Q : ρ ⊕ υ → Prop} (n : Nat) (F : Nat → Option ρ) (u : υ)
    (h : ∀ i : Nat, i < n → Tot (step i) (· = (match F i with | none => .inl ((i : Int) + 1) | some r => .inr (.inl r)))) (he : Tot (step n) (· = .inr (.inr u)))
    (hQ : Q (firstR ((List.range n).findSome? F) u)) : Tot (iter step 0) Q := by
  refine Tot.loop (fun i s => s = (i : Int) ∧ ∀ j, j < i → F j = none) n ⟨rfl, fun j hj => absurd hj (Nat.not_lt_zero _)⟩ fun i s hI hi => ?_
  obtain ⟨rfl, hI⟩ := hI
  by_cases hlt : i < n
  · refine (h i hlt).mono fun o ho => ?_
    subst ho
    cases hF : F i with
    | none =>
      refine ⟨hlt, rfl, fun j hj => ?_⟩
      by_cases hji : j = i
      · subst hji; exact hF
      · exact hI j (by omega)
    | some r =>
      have : (List.range n).findSome? F = some r := by
        rw [List.findSome?_eq_some_iff]
        refine ⟨List.range i, i, (List.range' (i + 1) (n - i - 1)), ?_, hF, fun j hj => hI j (List.mem_range.1 hj)⟩
        rw [List.range_eq_range', List.range_eq_range', ← List.range'_succ, show n - i - 1 + 1 = n - i by omega]
        have := @List.range'_append 0 i (n - i) 1
        simp only [Nat.one_mul, Nat.zero_add] at this
        rw [this]
        congr 1
        omega
      rw [this] at hQ
      exact hQ
  · have : i = n := by omega
    subst this
    refine he.mono fun o ho => ?_
    subst ho
    have : (List.range i).findSome? F = none := by
      rw [List.findSome?_eq_none_iff]
      exact fun j hj => hI j (List.mem_range.1 hj)
    rw [this] at hQ
    exact hQ
theorem findSome_all {ρ : Type} (p : Nat → Bool) (r : ρ) : ∀ xs : List Nat, xs.findSome? (fun i => if p i then none else some r) = if xs.all p then none else some r
  | [] => rfl
  | x :: xs => by
    rw [List.findSome?_cons, findSome_all p r xs]
    cases h : p x <;> simp [h]
theorem Tot.all {ρ υ : Type} {step : Int → Option (Int ⊕ (ρ ⊕ υ))} {Q : ρ ⊕ υ → Prop} (n : Nat) (p : Nat → Bool) (r : ρ) (u : υ)
    (h : ∀ i : Nat, i < n → Tot (step i) (· = (if p i then .inl ((i : Int) + 1) else .inr (.inl r)))) (he : Tot (step n) (· = .inr (.inr u)))
    (hQ : Q (if (List.range n).all p then .inr u else .inl r)) : Tot (iter step 0) Q := by
  refine Tot.first n (fun i => if p i then none else some r) u (fun i hi => ?_) he ?_
  · refine (h i hi).mono fun o ho => ?_
    rw [ho]
    cases p i <;> rfl
  · rw [findSome_all]
    cases h : (List.range n).all p <;> simpa [h, firstR] using hQ

/-! what is told with less -/
def wB (a b : Int) : Bool := decide (0 ≤ a ∧ a ≤ 2) && (decide (0 ≤ b ∧ b ≤ 2) && (decide (b = 1) || decide (a = b)))
theorem spec_isWithin (a b : Int) : spec_IsWithin a b = some (wB a b) := by
  unfold spec_IsWithin spec_IsTruth wB
  simp only [l1In_eq, Option.bind_some, cond_dec, eqI]
  by_cases h1 : 0 ≤ a ∧ a ≤ 2
  · rw [if_pos h1]
    by_cases h2 : 0 ≤ b ∧ b ≤ 2
    · rw [if_pos h2]
      by_cases h3 : b = 1
      · simp [h1, h3]
      · simp [h1, h2, h3]
    · rw [if_neg h2]; simp [h2]
  · rw [if_neg h1]; simp [h1]
theorem impl_isWithin (a b : Int) : impl_IsWithin a b = some (wB a b) := by rw [isWithin_eq, spec_isWithin]
def listW (a b : List Int) : Bool := decide (a.length = b.length) && (List.range a.length).all fun i => wB (a.getD i 0) (b.getD i 0)
theorem getD_at {α : Type} {xs : List α} {i : Nat} (h : i < xs.length) (d : α) : at? xs (i : Int) = some (xs.getD i d) := by
  rw [at_nat, List.getElem?_eq_getElem h]; simp [List.getD, h]
theorem spec_lists (a b : List Int) (ha : small a.length) : spec_l16Lists a b = some (listW a b) := by
  unfold small at ha
  unfold spec_l16Lists listW
  simp only [neI, cond_ndec]
  by_cases h : a.length = b.length
  · rw [if_pos (by omega)]
    simp only [h, decide_true, Bool.true_and]
    refine Tot.eq (Tot.bind (P := (· = if (List.range a.length).all (fun i => wB (a.getD i 0) (b.getD i 0)) then .inr () else .inl ())) (Tot.all a.length (fun i => wB (a.getD i 0) (b.getD i 0)) () () (fun i hi => ?_) ?_ (by simp)) fun r hr => ?_)
    · rw [← h]
      simp only [ltI, cond_dec, getD_at hi 0, getD_at (show i < b.length by omega) 0, Option.bind_some, spec_isWithin]
      rw [if_pos (by omega), addI_eq (by omega) (by omega)]
      cases wB (a.getD i 0) (b.getD i 0) <;> exact Tot.ret rfl
    · rw [← h]
      simp only [ltI, cond_dec]
      rw [if_neg (by omega)]
      exact Tot.ret rfl
    · subst hr
      rw [h]
      cases (List.range b.length).all (fun i => wB (a.getD i 0) (b.getD i 0)) <;> exact Tot.ret rfl
  · rw [if_neg (by omega)]
    simp [h]
theorem impl_equalFunc (a b : List Int) (ha : small a.length) : slices_EqualFunc_intint_int_int_ a b (fun x0 x1 => impl_IsWithin x0 x1) = some (listW a b) := by
  rw [← spec_lists a b ha, isWithin_eq]
  rfl
def zN : TNode := ⟨[], [], 0, 0⟩
def nodeW (x y : TNode) : Bool := listW x.vars y.vars && (listW x.reach y.reach && (wB x.shared y.shared && wB x.many y.many))
def okN (x : TNode) : Prop := small x.vars.length ∧ small x.reach.length
theorem spec_node (x y : TNode) (hx : okN x) : spec_l16Node x y = some (nodeW x y) := by
  unfold spec_l16Node nodeW
  rw [spec_lists _ _ hx.1, spec_lists _ _ hx.2, spec_isWithin, spec_isWithin]
  cases listW x.vars y.vars <;> cases listW x.reach y.reach <;> cases wB x.shared y.shared <;> rfl
theorem impl_node (x y : TNode) (hx : okN x) : impl_isWithinNode x y = some (nodeW x y) := by
  unfold impl_isWithinNode nodeW
  rw [impl_equalFunc _ _ hx.1, impl_equalFunc _ _ hx.2, impl_isWithin, impl_isWithin]
  cases listW x.vars y.vars <;> cases listW x.reach y.reach <;> cases wB x.shared y.shared <;> rfl
def nextV (s : TStructure) (i j : Int) : Int :=
  if 0 ≤ i ∧ i ≤ (s.nodes.length : Int) - 1 then if 0 ≤ j ∧ j ≤ (s.nodes.length : Int) - 1 then if s.next.length = s.nodes.length * s.nodes.length then s.next.getD (i * s.nodes.length + j).toNat 0 else 1 else 1 else 1
theorem sq_small {n : Nat} (h : small n) : n * n ≤ 16000000000000 := Nat.le_trans (Nat.mul_le_mul h h) (by decide)
theorem place_in {n : Nat} {i j : Int} (hi : 0 ≤ i ∧ i ≤ (n : Int) - 1) (hj : 0 ≤ j ∧ j ≤ (n : Int) - 1) : 0 ≤ i * n ∧ i * n + j < ((n * n : Nat) : Int) := by
  have h1 : i * n ≤ ((n : Int) - 1) * n := Int.mul_le_mul_of_nonneg_right hi.2 (by omega)
  have h2 : 0 ≤ i * (n : Int) := Int.mul_nonneg hi.1 (by omega)
  rw [Int.sub_mul, Int.one_mul] at h1
  have h3 : ((n * n : Nat) : Int) = (n : Int) * n := by simp
  omega
theorem spec_nextOf (s : TStructure) (i j : Int) (hs : small s.nodes.length) : spec_NextOf s i j = some (nextV s i j) := by
  unfold spec_NextOf nextV
  have hq := sq_small hs
  have hs' := hs
  unfold small at hs'
  rw [l1In_eq, l1In_eq, subI_eq (by omega) (by omega)]
  have h3 : ((s.nodes.length * s.nodes.length : Nat) : Int) = (s.nodes.length : Int) * s.nodes.length := by simp
  rw [mulI_eq (by omega) (by omega)]
  simp only [Option.bind_some, cond_dec, neI, cond_ndec]
  by_cases hi : 0 ≤ i ∧ i ≤ (s.nodes.length : Int) - 1
  · rw [if_pos hi, if_pos hi]
    by_cases hj : 0 ≤ j ∧ j ≤ (s.nodes.length : Int) - 1
    · rw [if_pos hj, if_pos hj]
      by_cases hn : s.next.length = s.nodes.length * s.nodes.length
      · obtain ⟨p1, p2⟩ := place_in hi hj
        rw [if_pos (by omega), if_pos hn, mulI_eq (by omega) (by omega), addI_eq (by omega) (by omega), at_in (by omega)]
        rfl
      · rw [if_neg (by omega), if_neg hn]
    · rw [if_neg hj, if_neg hj]
  · rw [if_neg hi, if_neg hi]
theorem impl_nextOf (s : TStructure) (i j : Int) (hs : small s.nodes.length) : impl_NextOf s i j = some (nextV s i j) := by
  rw [← spec_nextOf s i j hs]
  unfold impl_NextOf spec_NextOf impl_Structure_isNode
  simp only [within_eq, l1In_eq, Option.bind_some]
/-- one round of the test of a place -/
def roundB (s t : TStructure) (to : List Int) (j : Nat) : Bool :=
  wB (nextV s ((to.length : Int) - 1) j) (nextV t (lastI to) (to.getD j 0)) && (wB (nextV s j ((to.length : Int) - 1)) (nextV t (to.getD j 0) (lastI to)) && !(decide (j + 1 < to.length) && (decide (to.getD j 0 = lastI to) && !decide ((t.nodes.getD (lastI to).toNat zN).many = 1))))
def fitB (s t : TStructure) (to : List Int) : Bool := nodeW (s.nodes.getD (to.length - 1) zN) (t.nodes.getD (lastI to).toNat zN) && (List.range to.length).all (roundB s t to)
def okS (s : TStructure) : Prop := small s.nodes.length ∧ ∀ n ∈ s.nodes, okN n
theorem at_in' {α : Type} {xs : List α} {c : Int} (h : 0 ≤ c ∧ c < (xs.length : Int)) (d : α) : at? xs c = some (xs.getD c.toNat d) := by
  unfold at?
  rw [if_pos h.1]
  have : c.toNat < xs.length := by omega
  simp [List.getD, List.getElem?_eq_getElem this]
theorem okS_at {s : TStructure} (h : okS s) (i : Nat) : okN (s.nodes.getD i zN) := by
  by_cases hi : i < s.nodes.length
  · have := h.2 _ (List.getElem_mem hi)
    simpa [List.getD, List.getElem?_eq_getElem hi] using this
  · have : s.nodes.getD i zN = zN := by simp [List.getD, List.getElem?_eq_none (Nat.le_of_not_lt hi)]
    rw [this]
    unfold okN small zN
    simp
theorem spec_fits (s t : TStructure) (to : List Int) (hs : okS s) (ht : small t.nodes.length) (h0 : to ≠ []) (hl : to.length ≤ s.nodes.length) (hr : ∀ x ∈ to, 0 ≤ x ∧ x < (t.nodes.length : Int)) : spec_l16Fits s t to = some (fitB s t to) := by
  unfold spec_l16Fits fitB
  have hpos : 0 < to.length := List.length_pos_iff.2 h0
  have hs1 := hs.1
  have hsl : small to.length := Nat.le_trans hl hs1
  have hsl' := hsl
  unfold small at hsl' ht hs1
  have hx := hr _ (lastI_mem h0)
  rw [lastI_at h0 hsl, subI_eq (by omega) (by omega)]
  simp only [Option.bind_some, at_in' hx zN]
  have h1 : at? s.nodes ((to.length : Int) - 1) = some (s.nodes.getD (to.length - 1) zN) := by
    rw [at_in' (by omega) zN, show ((to.length : Int) - 1).toNat = to.length - 1 by omega]
  simp only [h1, Option.bind_some, spec_node _ _ (okS_at hs _)]
  cases hn : nodeW (s.nodes.getD (to.length - 1) zN) (t.nodes.getD (lastI to).toNat zN) with
  | false => rfl
  | true =>
    simp only [cond_true, Bool.true_and]
    refine Tot.eq (Tot.bind (P := (· = if (List.range to.length).all (roundB s t to) then .inr () else .inl ())) (Tot.all to.length (roundB s t to) () () (fun i hi => ?_) ?_ rfl) fun r hr => ?_)
    · simp only [leI, ltI, eqI, neI, cond_dec, cond_ndec, getD_at hi 0, Option.bind_some, spec_isWithin, spec_nextOf s _ _ hs.1, spec_nextOf t _ _ ht]
      rw [if_pos (by omega), addI_eq (by omega) (by omega)]
      unfold roundB
      cases wB (nextV s ((to.length : Int) - 1) i) (nextV t (lastI to) (to.getD i 0)) with
      | false => exact Tot.ret rfl
      | true =>
        cases wB (nextV s i ((to.length : Int) - 1)) (nextV t (to.getD i 0) (lastI to)) with
        | false => exact Tot.ret rfl
        | true =>
          simp only [cond_true, Bool.true_and]
          by_cases h2 : i + 1 < to.length
          · rw [if_pos (by omega)]
            by_cases h3 : to.getD i 0 = lastI to
            · rw [if_pos h3]
              by_cases h4 : (t.nodes.getD (lastI to).toNat zN).many = 1
              · rw [if_pos h4]; exact Tot.ret (by rw [decide_eq_true h2, decide_eq_true h3, decide_eq_true h4]; rfl)
              · rw [if_neg h4]; exact Tot.ret (by rw [decide_eq_true h2, decide_eq_true h3, decide_eq_false h4]; rfl)
            · rw [if_neg h3]; exact Tot.ret (by rw [decide_eq_true h2, decide_eq_false h3]; rfl)
          · rw [if_neg (by omega)]; exact Tot.ret (by rw [decide_eq_false h2]; rfl)
    · simp only [leI, cond_dec]
      rw [if_neg (by omega)]
      exact Tot.ret rfl
    · subst hr
      cases (List.range to.length).all (roundB s t to) <;> exact Tot.ret rfl
theorem impl_fits (s t : TStructure) (to : List Int) (hs : okS s) (ht : small t.nodes.length) (h0 : to ≠ []) (hl : to.length ≤ s.nodes.length) (hr : ∀ x ∈ to, 0 ≤ x ∧ x < (t.nodes.length : Int)) : impl_fitsSoFar s t to = some (fitB s t to) := by
  unfold impl_fitsSoFar fitB impl_Structure_isNode
  have hpos : 0 < to.length := List.length_pos_iff.2 h0
  have hs1 := hs.1
  have hsl : small to.length := Nat.le_trans hl hs1
  have hsl' := hsl
  unfold small at hsl' ht hs1
  have hx := hr _ (lastI_mem h0)
  rw [lastI_at h0 hsl, subI_eq (a := (to.length : Int)) (by omega) (by omega), subI_eq (a := (t.nodes.length : Int)) (by omega) (by omega)]
  simp only [Option.bind_some, within_eq, at_in' hx zN, cond_dec]
  rw [if_pos (by omega)]
  have h1 : at? s.nodes ((to.length : Int) - 1) = some (s.nodes.getD (to.length - 1) zN) := by
    rw [at_in' (by omega) zN, show ((to.length : Int) - 1).toNat = to.length - 1 by omega]
  have hA : at? to ((to.length : Int) - 1) = some (lastI to) := by
    have := lastI_at h0 hsl
    rwa [subI_eq (by omega) (by omega)] at this
  simp only [h1, hA, Option.bind_some, impl_node _ _ (okS_at hs _)]
  cases hn : nodeW (s.nodes.getD (to.length - 1) zN) (t.nodes.getD (lastI to).toNat zN) with
  | false => rfl
  | true =>
    simp only [cond_true, Bool.true_and]
    refine Tot.eq (Tot.bind (P := (· = if (List.range to.length).all (roundB s t to) then .inr () else .inl ())) (Tot.all to.length (roundB s t to) () () (fun i hi => ?_) ?_ rfl) fun r hr => ?_)
    · simp only [leI, ltI, eqI, neI, cond_dec, cond_ndec, getD_at hi 0, Option.bind_some, impl_isWithin, impl_nextOf s _ _ hs.1, impl_nextOf t _ _ ht]
      rw [if_pos (by omega), addI_eq (by omega) (by omega)]
      unfold roundB
      by_cases h2 : i + 1 < to.length
      · rw [if_pos (by omega), decide_eq_true h2]
        by_cases h3 : to.getD i 0 = lastI to
        · rw [if_pos h3, decide_eq_true h3, h3]
          simp only [at_in' hx zN, Option.bind_some]
          by_cases h4 : (t.nodes.getD (lastI to).toNat zN).many = 1
          · rw [if_pos h4, decide_eq_true h4]
            cases wB (nextV s ((to.length : Int) - 1) i) (nextV t (lastI to) (lastI to)) <;> cases wB (nextV s i ((to.length : Int) - 1)) (nextV t (lastI to) (lastI to)) <;> exact Tot.ret rfl
          · rw [if_neg h4, decide_eq_false h4]
            cases wB (nextV s ((to.length : Int) - 1) i) (nextV t (lastI to) (lastI to)) <;> cases wB (nextV s i ((to.length : Int) - 1)) (nextV t (lastI to) (lastI to)) <;> exact Tot.ret rfl
        · rw [if_neg h3, decide_eq_false h3]
          cases wB (nextV s ((to.length : Int) - 1) i) (nextV t (lastI to) (to.getD i 0)) <;> cases wB (nextV s i ((to.length : Int) - 1)) (nextV t (to.getD i 0) (lastI to)) <;> exact Tot.ret rfl
      · rw [if_neg (by omega), decide_eq_false h2]
        cases wB (nextV s ((to.length : Int) - 1) i) (nextV t (lastI to) (to.getD i 0)) <;> cases wB (nextV s i ((to.length : Int) - 1)) (nextV t (to.getD i 0) (lastI to)) <;> exact Tot.ret rfl
    · simp only [ltI, cond_dec]
      rw [if_neg (by omega)]
      exact Tot.ret rfl
    · subst hr
      cases (List.range to.length).all (roundB s t to) <;> exact Tot.ret rfl
end Go.Ev

namespace Go.Ev
/-! the search of an embedding -/
def ontoB (t : TStructure) (to : List Int) : Bool := (List.range t.nodes.length).all fun j : Nat => decide ((j : Int) ∈ to)
def rngT (t : TStructure) (to : List Int) : Prop := ∀ x ∈ to, 0 ≤ x ∧ x < (t.nodes.length : Int)
def prefFit (s t : TStructure) (to : List Int) : Bool := (List.range to.length).all fun i => fitB s t (to.take (i + 1))
def rngB (t : TStructure) (to : List Int) : Bool := to.all fun x => decide (0 ≤ x ∧ x < (t.nodes.length : Int))
theorem impl_onto (t : TStructure) (to : List Int) (ht : small t.nodes.length) (hl : small to.length) : impl_isOnto t to = some (ontoB t to) := by
  unfold small at ht
  unfold impl_isOnto
  refine Tot.eq (Tot.bind (P := (· = if ontoB t to then .inr () else .inl ())) (Tot.all t.nodes.length (fun j : Nat => decide ((j : Int) ∈ to)) () () (fun i hi => ?_) ?_ rfl) fun r hr => ?_)
  · simp only [ltI, cond_dec, contains_int to _ hl, Option.bind_some]
    rw [if_pos (by omega), addI_eq (by omega) (by omega)]
    by_cases h : (i : Int) ∈ to
    · rw [if_pos h, if_pos (by simpa using h)]; exact Tot.ret rfl
    · rw [if_neg h, if_neg (by simpa using h)]; exact Tot.ret rfl
  · simp only [ltI, cond_dec]
    rw [if_neg (by omega)]
    exact Tot.ret rfl
  · subst hr
    cases ontoB t to <;> exact Tot.ret rfl
theorem slc_take (to : List Int) (i : Nat) (hi : i < to.length) (hl : small to.length) : slc to 0 (addI (i : Int) 1) = some (to.take (i + 1)) := by
  unfold small at hl
  rw [addI_eq (by omega) (by omega)]
  unfold slc
  rw [if_pos (by omega)]
  congr 1
theorem ne_take {to : List Int} {i : Nat} (hi : i < to.length) : to.take (i + 1) ≠ [] := by
  intro h
  have : (to.take (i + 1)).length = 0 := by rw [h]; rfl
  rw [List.length_take] at this
  omega
/-- all places up to the first that lies outside fit -/
def upB (s t : TStructure) (to : List Int) (i : Nat) : Bool := decide (0 ≤ to.getD i 0 ∧ to.getD i 0 ≤ (t.nodes.length : Int) - 1) && fitB s t (to.take (i + 1))
def embB (s t : TStructure) (to : List Int) : Bool := decide (to.length = s.nodes.length) && ((List.range to.length).all (upB s t to) && ontoB t to)
theorem spec_isEmbedding (s t : TStructure) (to : List Int) (hs : okS s) (ht : small t.nodes.length) (hto : small to.length) : spec_IsEmbedding s t to = some (embB s t to) := by
  unfold spec_IsEmbedding embB
  have hs1 := hs.1
  have ht' := ht
  have hto' := hto
  unfold small at hs1 ht' hto'
  simp only [neI, cond_ndec]
  by_cases hl : to.length = s.nodes.length
  · rw [if_pos (by omega), decide_eq_true hl, Bool.true_and]
    have key : Tot (iter (ρ := (Unit) ⊕ (Unit)) (fun s_2 : Int =>
        cond (ltI s_2 (to.length : Int))
          ((at? to s_2).bind fun e_15 =>
            (spec_l1In e_15 0 (subI (t.nodes.length : Int) 1)).bind fun y_20 =>
              cond y_20
                ((slc to 0 (addI s_2 1)).bind fun z_24 =>
                  (spec_l16Fits s t z_24).bind fun y_31 =>
                    cond y_31
                      (some (.inl (addI s_2 1)))
                      (some (.inr (.inl ()))))
                (some (.inr (.inl ()))))
          (some (.inr (.inr ())))) 0) (fun r => (r = .inr () ∧ (List.range to.length).all (upB s t to) = true) ∨ (r = .inl () ∧ (List.range to.length).all (upB s t to) = false)) := by
      refine Tot.loop (fun i q => q = (i : Int) ∧ ∀ j, j < i → upB s t to j = true) to.length ⟨rfl, fun j hj => absurd hj (Nat.not_lt_zero _)⟩ fun i q hI hi => ?_
      obtain ⟨rfl, hI⟩ := hI
      simp only [ltI, cond_dec]
      by_cases hlt : i < to.length
      · rw [if_pos (by omega)]
        simp only [getD_at hlt 0, Option.bind_some, l1In_eq, subI_eq (a := (t.nodes.length : Int)) (b := 1) (by omega) (by omega), cond_dec]
        have hno : upB s t to i = false → (List.range to.length).all (upB s t to) = false := fun hu => List.all_eq_false.2 ⟨i, List.mem_range.2 hlt, by simp [hu]⟩
        by_cases hr : 0 ≤ to.getD i 0 ∧ to.getD i 0 ≤ (t.nodes.length : Int) - 1
        · rw [if_pos hr, slc_take to i hlt hto, Option.bind_some]
          have hall : ∀ x ∈ to.take (i + 1), 0 ≤ x ∧ x < (t.nodes.length : Int) := by
            intro x hx
            obtain ⟨j, hj, rfl⟩ := List.mem_iff_getElem.1 hx
            simp only [List.length_take] at hj
            rw [List.getElem_take]
            by_cases hji : j = i
            · subst hji
              have : to.getD j 0 = to[j] := by simp [List.getD, hlt]
              omega
            · have hu := hI j (by omega)
              have : to.getD j 0 = to[j]'(by omega) := by simp [List.getD, show j < to.length by omega]
              simp only [upB, Bool.and_eq_true, decide_eq_true_eq] at hu
              omega
          rw [spec_fits s t _ hs ht (ne_take hlt) (by simp; omega) hall, Option.bind_some, addI_eq (by omega) (by omega)]
          have hu : upB s t to i = fitB s t (to.take (i + 1)) := by unfold upB; rw [decide_eq_true hr, Bool.true_and]
          cases hf : fitB s t (to.take (i + 1)) with
          | true =>
            refine Tot.ret ⟨hlt, by simp, fun j hj => ?_⟩
            by_cases hji : j = i
            · subst hji; rw [hu, hf]
            · exact hI j (by omega)
          | false => exact Tot.ret (.inr ⟨rfl, hno (hu.trans hf)⟩)
        · rw [if_neg hr]
          refine Tot.ret (.inr ⟨rfl, hno ?_⟩)
          unfold upB
          rw [decide_eq_false hr, Bool.false_and]
      · rw [if_neg (by omega)]
        refine Tot.ret (.inl ⟨rfl, List.all_eq_true.2 fun j hj => hI j (by have := List.mem_range.1 hj; omega)⟩)
    obtain ⟨r, hr, h⟩ := key
    rw [hr, Option.bind_some]
    rcases h with ⟨rfl, h⟩ | ⟨rfl, h⟩
    · rw [h, Bool.true_and]
      simp only [Sum.elim_inr]
      refine Tot.eq (Tot.bind (P := (· = if ontoB t to then .inr () else .inl false)) (Tot.all t.nodes.length (fun j : Nat => decide ((j : Int) ∈ to)) false () (fun i hi => ?_) ?_ rfl) fun r hr => ?_)
      · simp only [ltI, cond_dec, l7Has to _ hto, Option.bind_some]
        rw [if_pos (by omega), addI_eq (by omega) (by omega)]
        by_cases h : (i : Int) ∈ to
        · rw [if_pos h, if_pos (by simpa using h)]; exact Tot.ret rfl
        · rw [if_neg h, if_neg (by simpa using h)]; exact Tot.ret rfl
      · simp only [ltI, cond_dec]
        rw [if_neg (by omega)]
        exact Tot.ret rfl
      · subst hr
        cases ontoB t to <;> exact Tot.ret rfl
    · rw [h]; rfl
  · rw [if_neg (by omega), decide_eq_false hl]
    rfl

def pre (s t : TStructure) (to : List Int) : Prop := to.length ≤ s.nodes.length ∧ rngT t to ∧ ∀ i, i < to.length → fitB s t (to.take (i + 1)) = true
theorem pre_emb {s t : TStructure} {to : List Int} (h : pre s t to) (hl : to.length = s.nodes.length) : embB s t to = ontoB t to := by
  unfold embB
  rw [decide_eq_true hl, Bool.true_and]
  have : (List.range to.length).all (upB s t to) = true := List.all_eq_true.2 fun i hi => by
    have hi := List.mem_range.1 hi
    unfold upB
    have hg : to.getD i 0 = to[i] := by simp [List.getD, hi]
    have := h.2.1 _ (List.getElem_mem hi)
    rw [h.2.2 i hi, decide_eq_true (by omega), Bool.true_and]
  rw [this, Bool.true_and]
theorem pre_push {s t : TStructure} {to : List Int} (h : pre s t to) {j : Nat} (hj : j < t.nodes.length) (hl : to.length < s.nodes.length) (hf : fitB s t (to ++ [(j : Int)]) = true) : pre s t (to ++ [(j : Int)]) := by
  refine ⟨by simp; omega, fun x hx => ?_, fun i hi => ?_⟩
  · rcases List.mem_append.1 hx with hx | hx
    · exact h.2.1 x hx
    · simp at hx; omega
  · simp only [List.length_append, List.length_singleton] at hi
    by_cases he : i = to.length
    · subst he
      rw [List.take_of_length_le (by simp)]
      exact hf
    · rw [List.take_append_of_le_length (by omega)]
      exact h.2.2 i (by omega)
def tryJ (s t : TStructure) (F : List Int → List Int × Bool) (to : List Int) (j : Nat) : Option (List Int × Bool) :=
  if fitB s t (to ++ [(j : Int)]) then (if (F (to ++ [(j : Int)])).2 then some ((F (to ++ [(j : Int)])).1, true) else none) else none
def findF (s t : TStructure) : Nat → List Int → List Int × Bool
  | 0, to => (to, ontoB t to)
  | k + 1, to => (match (List.range t.nodes.length).findSome? (tryJ s t (findF s t k) to) with | some r => r | none => ([], false))
theorem findF_len (s t : TStructure) : ∀ (k : Nat) (to : List Int), (findF s t k to).1.length ≤ to.length + k
  | 0, to => Nat.le_refl _
  | k + 1, to => by
    unfold findF
    split
    · rename_i r hr
      obtain ⟨j, _, hj⟩ := List.exists_of_findSome?_eq_some hr
      unfold tryJ at hj
      split at hj
      · split at hj
        · cases hj
          have := findF_len s t k (to ++ [(j : Int)])
          simp only [List.length_append, List.length_singleton] at this
          simp only
          omega
        · cases hj
      · cases hj
    · simp
theorem spec_find (s t : TStructure) (hs : okS s) (ht : small t.nodes.length) : ∀ (k : Nat) (to : List Int), to.length + k = s.nodes.length → pre s t to → fixN R_spec_l16Find (k + 1) (s, t, to, ()) = some (findF s t k to)
  | 0, to, hk, hp => by
    rw [show fixN R_spec_l16Find (0 + 1) (s, t, to, ()) = B_spec_l16Find (fun a b c => fixN R_spec_l16Find 0 (a, b, c, ())) s t to from rfl]
    have hs1 := hs.1
    unfold B_spec_l16Find
    simp only [eqI, cond_dec]
    rw [if_pos (by omega), spec_isEmbedding s t to hs ht (by unfold small at *; omega), Option.bind_some, pre_emb hp (by omega)]
    rfl
  | k + 1, to, hk, hp => by
    rw [show fixN R_spec_l16Find (k + 1 + 1) (s, t, to, ()) = B_spec_l16Find (fun a b c => fixN R_spec_l16Find (k + 1) (a, b, c, ())) s t to from rfl]
    have hs1 := hs.1
    have ht' := ht
    unfold small at hs1 ht'
    unfold B_spec_l16Find
    simp only [eqI, cond_dec]
    rw [if_neg (by omega)]
    refine Tot.eq (Tot.bind (P := (· = firstR ((List.range t.nodes.length).findSome? (tryJ s t (findF s t k) to)) ())) (Tot.first t.nodes.length (tryJ s t (findF s t k) to) () (fun i hi => ?_) ?_ rfl) fun r hr => ?_)
    · simp only [ltI, cond_dec, List.length_nil, Nat.zero_add, List.length_singleton]
      rw [if_pos (by omega), room_small (by omega) (by omega), Option.bind_some, room_small (by omega) (by omega), Option.bind_some, addI_eq (by omega) (by omega),
        spec_fits s t _ hs ht (by simp) (by simp; omega) (fun x hx => by
          rcases List.mem_append.1 hx with hx | hx
          · exact hp.2.1 x hx
          · simp at hx; omega), Option.bind_some]
      unfold tryJ
      cases hf : fitB s t (to ++ [(i : Int)]) with
      | false => exact Tot.ret rfl
      | true =>
        rw [cond_true, spec_find s t hs ht k _ (by simp; omega) (pre_push hp hi (by omega) hf), Option.bind_some]
        cases hb : (findF s t k (to ++ [(i : Int)])).2 <;> exact Tot.ret (by simp [hb])
    · simp only [ltI, cond_dec]
      rw [if_neg (by omega)]
      exact Tot.ret rfl
    · subst hr
      unfold findF
      cases (List.range t.nodes.length).findSome? (tryJ s t (findF s t k) to) <;> exact Tot.ret rfl
theorem impl_find (s t : TStructure) (hs : okS s) (ht : small t.nodes.length) : ∀ (k : Nat) (to : List Int), to.length + k = s.nodes.length → pre s t to → fixN R_impl_FindEmbedding_1 (k + 1) (to, s, t, ()) = some (findF s t k to)
  | 0, to, hk, hp => by
    rw [show fixN R_impl_FindEmbedding_1 (0 + 1) (to, s, t, ()) = B_impl_FindEmbedding_1 (fun a b c => fixN R_impl_FindEmbedding_1 0 (a, b, c, ())) to s t from rfl]
    have hs1 := hs.1
    unfold B_impl_FindEmbedding_1
    simp only [eqI, cond_dec]
    rw [if_pos (by omega), impl_onto t to ht (by unfold small at *; omega), Option.bind_some]
    rfl
  | k + 1, to, hk, hp => by
    rw [show fixN R_impl_FindEmbedding_1 (k + 1 + 1) (to, s, t, ()) = B_impl_FindEmbedding_1 (fun a b c => fixN R_impl_FindEmbedding_1 (k + 1) (a, b, c, ())) to s t from rfl]
    have hs1 := hs.1
    have ht' := ht
    unfold small at hs1 ht'
    unfold B_impl_FindEmbedding_1
    simp only [eqI, cond_dec]
    rw [if_neg (by omega)]
    refine Tot.eq (Tot.bind (P := (· = firstR ((List.range t.nodes.length).findSome? (tryJ s t (findF s t k) to)) ())) (Tot.first t.nodes.length (tryJ s t (findF s t k) to) () (fun i hi => ?_) ?_ rfl) fun r hr => ?_)
    · simp only [ltI, cond_dec, clone_int to (by unfold small; omega), Option.bind_some, List.length_singleton]
      rw [if_pos (by omega), room_small (by omega) (by omega), Option.bind_some, addI_eq (by omega) (by omega),
        impl_fits s t _ hs ht (by simp) (by simp; omega) (fun x hx => by
          rcases List.mem_append.1 hx with hx | hx
          · exact hp.2.1 x hx
          · simp at hx; omega), Option.bind_some]
      unfold tryJ
      cases hf : fitB s t (to ++ [(i : Int)]) with
      | false => exact Tot.ret rfl
      | true =>
        rw [cond_true, impl_find s t hs ht k _ (by simp; omega) (pre_push hp hi (by omega) hf), Option.bind_some]
        cases hb : (findF s t k (to ++ [(i : Int)])).2 <;> exact Tot.ret (by simp [hb])
    · simp only [ltI, cond_dec]
      rw [if_neg (by omega)]
      exact Tot.ret rfl
    · subst hr
      unfold findF
      cases (List.range t.nodes.length).findSome? (tryJ s t (findF s t k) to) <;> exact Tot.ret rfl
theorem pre_nil (s t : TStructure) : pre s t [] := ⟨Nat.zero_le _, by simp [rngT], by simp⟩
def findE' (s t : TStructure) : List Int × Bool := let r := findF s t s.nodes.length []; if r.2 then (r.1, true) else ([], false)
theorem spec_findE (s t : TStructure) (hs : okS s) (ht : small t.nodes.length) : spec_FindEmbedding s t = some (findE' s t) := by
  have h : spec_l16Find s t [] = some (findF s t s.nodes.length []) := fixO_of R_spec_l16Find_mono (spec_find s t hs ht s.nodes.length [] (by simp) (pre_nil s t))
  have hl := findF_len s t s.nodes.length []
  have hs1 := hs.1
  unfold small at hs1
  simp only [List.length_nil, Nat.zero_add] at hl
  unfold spec_FindEmbedding findE'
  rw [h, Option.bind_some]
  cases hb : (findF s t s.nodes.length []).2 with
  | false => simp [hb]
  | true => simp only [cond_true, List.length_nil, Nat.zero_add]; rw [room_small (by omega) (by omega)]; simp [hb]
theorem impl_findE (s t : TStructure) (hs : okS s) (ht : small t.nodes.length) : impl_FindEmbedding s t = some (findE' s t) := by
  have h : impl_FindEmbedding_1 [] s t = some (findF s t s.nodes.length []) := fixO_of R_impl_FindEmbedding_1_mono (impl_find s t hs ht s.nodes.length [] (by simp) (pre_nil s t))
  unfold impl_FindEmbedding findE'
  rw [h, Option.bind_some]
  cases hb : (findF s t s.nodes.length []).2 <;> simp [hb]
def isEmb (s t : TStructure) : Bool := (findE' s t).2
theorem spec_isEmbedded (s t : TStructure) (hs : okS s) (ht : small t.nodes.length) : spec_IsEmbedded s t = some (isEmb s t) := by
  unfold spec_IsEmbedded
  rw [spec_findE s t hs ht]
  rfl
theorem impl_isEmbedded (s t : TStructure) (hs : okS s) (ht : small t.nodes.length) : impl_IsEmbedded s t = some (isEmb s t) := by
  unfold impl_IsEmbedded
  rw [impl_findE s t hs ht]
  rfl

/-! what a set describes -/
theorem strOf_ok (h : THeap) : okS (strOf h) := by
  have h1 := strOf_len h
  refine ⟨by unfold small; omega, ?_⟩
  unfold strOf
  split
  · split
    · split
      · intro n hn
        simp only [List.mem_map, List.mem_range] at hn
        obtain ⟨i, hi, rfl⟩ := hn
        unfold okN small nodeOf
        simp only [List.length_map]
        omega
      · simp
    · simp
  · simp
def okSet (set : List TStructure) : Prop := small set.length ∧ ∀ t ∈ set, small t.nodes.length
def setDesc (set : List TStructure) (h : THeap) : Bool := set.any fun t => isEmb (strOf h) t
theorem any_first {α : Type} (xs : List α) (p : α → Bool) (d : α) : (List.range xs.length).findSome? (fun i => if p (xs.getD i d) then some true else none) = if xs.any p then some true else none := by
  have : ∀ (ys : List α), (List.range ys.length).map (fun i => ys.getD i d) = ys := by
    intro ys
    apply List.ext_getElem
    · simp
    · intro i h1 h2
      simp [List.getD, h2]
  have h2 : (List.range xs.length).findSome? (fun i => if p (xs.getD i d) then some true else none) = ((List.range xs.length).map (fun i => xs.getD i d)).findSome? (fun x => if p x then some true else none) := by
    rw [List.findSome?_map]; rfl
  rw [h2, this]
  clear h2 this
  induction xs with
  | nil => rfl
  | cons x xs ih => rw [List.findSome?_cons, ih]; cases h : p x <;> simp [h]
theorem spec_setDescribes (set : List TStructure) (h : THeap) (hset : okSet set) (hh : tiny h) : spec_SetDescribes set h = some (setDesc set h) := by
  unfold spec_SetDescribes
  have hl := hset.1
  unfold small at hl
  have hD : ∀ t ∈ set, spec_Describes t h = some (isEmb (strOf h) t) := fun t ht => by
    unfold spec_Describes
    rw [spec_structureOf h (by unfold small; have := hh.1; omega) (by unfold small; have := hh.2; omega), Option.bind_some, spec_isEmbedded _ _ (strOf_ok h) (hset.2 t ht)]
    rfl
  refine Tot.eq (Tot.bind (P := (· = if setDesc set h then .inl true else .inr ())) (Tot.first set.length (fun i => if isEmb (strOf h) (set.getD i ⟨[], []⟩) then some true else none) () (fun i hi => ?_) ?_ ?_) fun r hr => ?_)
  · have hm : set.getD i ⟨[], []⟩ ∈ set := by simp [List.getD, hi]
    simp only [ltI, cond_dec, getD_at hi ⟨[], []⟩, Option.bind_some, hD _ hm]
    rw [if_pos (by omega), addI_eq (by omega) (by omega)]
    cases isEmb (strOf h) (set.getD i ⟨[], []⟩) <;> exact Tot.ret rfl
  · simp only [ltI, cond_dec]
    rw [if_neg (by omega)]
    exact Tot.ret rfl
  · rw [any_first set (fun t => isEmb (strOf h) t) ⟨[], []⟩]
    unfold setDesc
    cases set.any (fun t => isEmb (strOf h) t) <;> rfl
  · subst hr
    cases setDesc set h <;> exact Tot.ret rfl
theorem impl_setDescribes (set : List TStructure) (h : THeap) (hset : okSet set) (hh : tiny h) : impl_SetDescribes set h = some (setDesc set h) := by
  unfold impl_SetDescribes impl_Covers
  have h1 := hh.1
  have h2 := hh.2
  rw [impl_structureOf h (by unfold small; omega) (by unfold small; omega) (by unfold small; simp only [List.length_append]; omega), Option.bind_some]
  have hc := containsFunc_str set (fun x0 => impl_Covers_1 x0 (strOf h)) (fun t => isEmb (strOf h) t) (fun t ht => by
    unfold impl_Covers_1
    rw [impl_isEmbedded _ _ (strOf_ok h) (hset.2 t ht)]
    rfl) hset.1
  rw [hc]
  rfl
/-! the small heaps that a set describes -/
def shOf (v : Int) (set : List TStructure) (c : Int) : List THeap := (shL v c).filter (setDesc set)
theorem shOf_len (v : Int) (set : List TStructure) (c : Int) : (shOf v set c).length ≤ 1600000 := Nat.le_trans (List.length_filter_le _ _) (shL_len v c)
theorem filter_take {α : Type} (p : α → Bool) (xs : List α) {i : Nat} (h : i < xs.length) : (xs.take (i + 1)).filter p = (xs.take i).filter p ++ (if p xs[i] then [xs[i]] else []) := by
  rw [take_snoc1 h, List.filter_append]
  cases hp : p xs[i] <;> simp [hp]
theorem spec_smallHeapsOf (v : Int) (set : List TStructure) (c : Int) (hset : okSet set) : spec_SmallHeapsOf v set c = some (shOf v set c) := by
  unfold spec_SmallHeapsOf
  rw [spec_SH, Option.bind_some]
  have hl := shL_len v c
  have htn := shL_tiny v c
  unfold shOf
  generalize shL v c = xs at *
  refine Tot.eq (Tot.bind (P := (·.1 = xs.filter (setDesc set))) (Tot.loop (fun i s => s = ((xs.take i).filter (setDesc set), (i : Int), (i : Int))) xs.length (by simp) fun i s hI hi => ?_) fun r hr => Tot.ret hr)
  subst hI
  simp only [ltI, cond_dec]
  by_cases hlt : i < xs.length
  · have hfl := List.length_filter_le (setDesc set) (xs.take i)
    simp only [List.length_take] at hfl
    rw [if_pos (by omega)]
    simp only [at_nat, List.getElem?_eq_getElem hlt, Option.bind_some, takeI, if_true, spec_setDescribes set _ hset (htn _ (List.getElem_mem hlt)), List.length_singleton]
    rw [addI_eq (by omega) (by omega), room_small (by omega) (by omega)]
    have hf := filter_take (setDesc set) xs hlt
    cases hb : setDesc set xs[i] with
    | true =>
      rw [hb] at hf
      exact Tot.ret ⟨hlt, by simp only [hf, if_true, Option.bind_some]; rfl⟩
    | false =>
      rw [hb] at hf
      exact Tot.ret ⟨hlt, by simp [hf]⟩
  · rw [if_neg (by omega)]
    have : i = xs.length := by omega
    subst this
    exact Tot.ret (by simp)
theorem impl_smallHeapsOf (v : Int) (set : List TStructure) (c : Int) (hset : okSet set) : impl_SmallHeapsOf v set c = some (shOf v set c) := by
  unfold impl_SmallHeapsOf impl_described
  rw [impl_SH, Option.bind_some]
  have hl := shL_len v c
  have htn := shL_tiny v c
  unfold shOf
  generalize shL v c = xs at *
  refine Tot.eq (Tot.bind (P := (· = xs.filter (setDesc set))) (Tot.bind (P := (·.1 = xs.filter (setDesc set))) (Tot.loop (fun i s => s = ((xs.take i).filter (setDesc set), (i : Int), (i : Int))) xs.length (by simp) fun i s hI hi => ?_) fun r hr => Tot.ret hr) fun r hr => Tot.ret hr)
  subst hI
  simp only [ltI, cond_dec]
  by_cases hlt : i < xs.length
  · have hfl := List.length_filter_le (setDesc set) (xs.take i)
    simp only [List.length_take] at hfl
    rw [if_pos (by omega)]
    simp only [at_nat, List.getElem?_eq_getElem hlt, Option.bind_some, takeI, if_true, impl_SmallHeapsOf_1, impl_setDescribes set _ hset (htn _ (List.getElem_mem hlt)), List.length_singleton]
    rw [addI_eq (by omega) (by omega), room_small (by omega) (by omega)]
    have hf := filter_take (setDesc set) xs hlt
    cases hb : setDesc set xs[i] with
    | true =>
      rw [hb] at hf
      exact Tot.ret ⟨hlt, by simp only [hf, if_true, Option.bind_some]; rfl⟩
    | false =>
      rw [hb] at hf
      exact Tot.ret ⟨hlt, by simp [hf]⟩
  · rw [if_neg (by omega)]
    have : i = xs.length := by omega
    subst this
    exact Tot.ret (by simp)
end Go.Ev

namespace Go.Ev
open Wf (wf)
open Sm (sm lg)
theorem szIntS_ok {a : (List Int)} {left : Int} (hw : wf a) (hl : 0 ≤ left ∧ left ≤ 1048576) : SzOK (laws_szIntS a left) (sm a) := by
  unfold laws_szIntS
  have h := (wf_list hw).1
  rw [subI_eq (by omega) (by omega), cond_lt]
  by_cases h : left - (a.length : Int) < 0
  · rw [if_pos h]; exact ⟨-1, rfl, by omega, by omega, by omega⟩
  · rw [if_neg h]; exact ⟨_, rfl, by omega, fun _ => ⟨by omega, fun _ _ => trivial⟩, by omega⟩
theorem szNode_ok {a : TNode} {left : Int} (hw : wf a) (hl : 0 ≤ left ∧ left ≤ 1048576) : SzOK (laws_szNode a left) (sm a) := (szIntS_ok hw.1 hl).two fun n0 hn0 => (szIntS_ok hw.2.1 hn0).last
theorem szNodeS_ok {a : (List TNode)} {left : Int} (hw : wf a) (hl : 0 ≤ left ∧ left ≤ 1048576) : SzOK (laws_szNodeS a left) (sm a) := by
  refine szRow laws_szNode hl (wf_list hw).1 (fun x hx l hl => szNode_ok ((wf_list hw).2 x hx) hl) (fun i x l n hi hx hn => ?_) (fun l => ?_) (by unfold laws_szNodeS; rfl)
  · simp only [cond_lt, at_nat, hx, hn, Int.ofNat_lt, hi, if_true, Option.bind_some]
    split <;> rfl
  · simp [cond_lt]
theorem szStructure_ok {a : TStructure} {left : Int} (hw : wf a) (hl : 0 ≤ left ∧ left ≤ 1048576) : SzOK (laws_szStructure a left) (sm a) := (szNodeS_ok hw.1 hl).two fun n0 hn0 => (szIntS_ok hw.2 hn0).last
theorem toIntS_ok {a : (List Int)} (h : sm a) : laws_toIntS a = some a := by
  refine toRow (fun x => some x) (mapM_self (fun _ _ => rfl)) (sm_len h) (b := 8) (by omega) (fun i x y o hi hx hy ho => ?_) (fun o => ?_) (by unfold laws_toIntS; rfl)
  · obtain ⟨q, hq⟩ := ho
    cases hy
    simp only [cond_lt, at_nat, hx, hq, Int.ofNat_lt, hi, if_true, Option.bind_some, Int.toNat_natCast]
  · simp [cond_lt]
theorem toNode_ok {a : TNode} (h : sm a) : laws_toNode a = some a := by
  unfold laws_toNode
  rw [toIntS_ok h.1, toIntS_ok h.2]
  rfl
theorem toNodeS_ok {a : (List TNode)} (h : sm a) : laws_toNodeS a = some a := by
  refine toRow (laws_toNode) (mapM_self (fun x hx => toNode_ok (h.2 x hx))) (sm_len h) (b := 64) (by omega) (fun i x y o hi hx hy ho => ?_) (fun o => ?_) (by unfold laws_toNodeS; rfl)
  · obtain ⟨q, hq⟩ := ho
    simp only [cond_lt, at_nat, hx, hq, hy, Int.ofNat_lt, hi, if_true, Option.bind_some, Int.toNat_natCast]
  · simp [cond_lt]
theorem toStructure_ok {a : TStructure} (h : sm a) : laws_toStructure a = some a := by
  unfold laws_toStructure
  rw [toNodeS_ok h.1, toIntS_ok h.2]
  rfl
theorem eqIntS_ok {a b : (List Int)} (h : lg a) : laws_eqIntS a b = some (decide (a = b)) := by
  refine eqRow (lg_le h) (fun i x y hi hx hy => ?_) ?_ (by unfold laws_eqIntS; rfl)
  · simp only [cond_lt, cond_ne, at_nat, hx, hy, Option.bind_some, Int.ofNat_lt, hi, if_true]
    by_cases he : x = y <;> simp [he]
  · simp [cond_lt]
theorem eqNode_ok {a b : TNode} (h : lg a) : laws_eqNode a b = some (decide (a = b)) := by
  unfold laws_eqNode
  rw [eqIntS_ok h.1, eqIntS_ok h.2]
  rcases a with ⟨a0, a1, a2, a3⟩
  rcases b with ⟨b0, b1, b2, b3⟩
  simp only [Option.bind_some, cond_dec, cond_ne, neS_dec, cond_ndec, TNode.mk.injEq]
  by_cases h0 : a0 = b0 <;> by_cases h1 : a1 = b1 <;> by_cases h2 : a2 = b2 <;> by_cases h3 : a3 = b3 <;> simp [h0, h1, h2, h3]
theorem eqNodeS_ok {a b : (List TNode)} (h : lg a) : laws_eqNodeS a b = some (decide (a = b)) := by
  refine eqRow (lg_le h) (fun i x y hi hx hy => ?_) ?_ (by unfold laws_eqNodeS; rfl)
  · simp only [cond_lt, eqNode_ok (lg_mem h hx), cond_dec, at_nat, hx, hy, Option.bind_some, Int.ofNat_lt, hi, if_true]
    by_cases he : x = y <;> simp [he]
  · simp [cond_lt]
theorem eqStructure_ok {a b : TStructure} (h : lg a) : laws_eqStructure a b = some (decide (a = b)) := by
  unfold laws_eqStructure
  rw [eqNodeS_ok h.1, eqIntS_ok h.2]
  rcases a with ⟨a0, a1⟩
  rcases b with ⟨b0, b1⟩
  simp only [Option.bind_some, cond_dec, cond_ne, neS_dec, cond_ndec, TStructure.mk.injEq]
  by_cases h0 : a0 = b0 <;> by_cases h1 : a1 = b1 <;> simp [h0, h1]
theorem eqStructureS_ok {a b : (List TStructure)} (h : lg a) : laws_eqStructureS a b = some (decide (a = b)) := by
  refine eqRow (lg_le h) (fun i x y hi hx hy => ?_) ?_ (by unfold laws_eqStructureS; rfl)
  · simp only [cond_lt, eqStructure_ok (lg_mem h hx), cond_dec, at_nat, hx, hy, Option.bind_some, Int.ofNat_lt, hi, if_true]
    by_cases he : x = y <;> simp [he]
  · simp [cond_lt]
theorem eqHeap_ok {a b : THeap} (h : lg a) : laws_eqHeap a b = some (decide (a = b)) := by
  unfold laws_eqHeap
  rw [eqIntS_ok h.1, eqIntS_ok h.2]
  rcases a with ⟨a0, a1⟩
  rcases b with ⟨b0, b1⟩
  simp only [Option.bind_some, cond_dec, cond_ne, neS_dec, cond_ndec, THeap.mk.injEq]
  by_cases h0 : a0 = b0 <;> by_cases h1 : a1 = b1 <;> simp [h0, h1]
theorem eqHeapS_ok {a b : (List THeap)} (h : lg a) : laws_eqHeapS a b = some (decide (a = b)) := by
  refine eqRow (lg_le h) (fun i x y hi hx hy => ?_) ?_ (by unfold laws_eqHeapS; rfl)
  · simp only [cond_lt, eqHeap_ok (lg_mem h hx), cond_dec, at_nat, hx, hy, Option.bind_some, Int.ofNat_lt, hi, if_true]
    by_cases he : x = y <;> simp [he]
  · simp [cond_lt]
theorem szStructureS_ok {a : (List TStructure)} {left : Int} (hw : wf a) (hl : 0 ≤ left ∧ left ≤ 1048576) : SzOK (laws_szStructureS a left) (sm a) := by
  refine szRow laws_szStructure hl (wf_list hw).1 (fun x hx l hl => szStructure_ok ((wf_list hw).2 x hx) hl) (fun i x l n hi hx hn => ?_) (fun l => ?_) (by unfold laws_szStructureS; rfl)
  · simp only [cond_lt, at_nat, hx, hn, Int.ofNat_lt, hi, if_true, Option.bind_some]
    split <;> rfl
  · simp [cond_lt]
theorem toStructureS_ok {a : (List TStructure)} (h : sm a) : laws_toStructureS a = some a := by
  refine toRow (laws_toStructure) (mapM_self (fun x hx => toStructure_ok (h.2 x hx))) (sm_len h) (b := 48) (by omega) (fun i x y o hi hx hy ho => ?_) (fun o => ?_) (by unfold laws_toStructureS; rfl)
  · obtain ⟨q, hq⟩ := ho
    simp only [cond_lt, at_nat, hx, hq, hy, Int.ofNat_lt, hi, if_true, Option.bind_some, Int.toNat_natCast]
  · simp [cond_lt]
end Go.Ev

namespace Go.Ev
theorem cntE_markIntS_ok (x : Int) (k : Int) (hk : 0 ≤ k) (hb : k + cntE_markIntS x ≤ maxMark) : (mkE_markIntS x k).2 = k + cntE_markIntS x := by
  unfold cntE_markIntS maxMark at *
  unfold mkE_markIntS
  have h0 : addI k 1 = k + 1 := addI_eq (by omega) (by omega)
  simp only
  omega
theorem markIntS_snd (xs : List Int) (k : Int) (hk : 0 ≤ k) (hb : k + cntF_markIntS xs ≤ maxMark) : (mkF_markIntS xs k).2 = k + cntF_markIntS xs := mkRow_snd cntE_markIntS_ok xs k hk hb
theorem heldIntS_ok {xs : List Int} {k0 : Int} (hl : Sm.lg xs) (hk : 0 ≤ k0) (hb : k0 + cntF_markIntS xs ≤ maxMark) : laws_heldIntS (mkF_markIntS xs k0).1 k0 = some (mkF_markIntS xs k0).2 := by
  unfold laws_heldIntS
  have hlg : ∀ x ∈ xs, Sm.lg x := hl.2
  rw [held_row (ys := (mkF_markIntS xs k0).1) (E := mkE_markIntS) (cnt := cntE_markIntS) (xs := xs) cntE_markIntS_ok (fun i x k hx0 hi hx hk hb => ?_) (fun k => by simp [cond_lt]) rfl (by have := hl.1; omega) hk hb]
  · rfl
  · have e0 : at? (mkF_markIntS xs k0).1 (i : Int) = some (mkE_markIntS x k).1 := by rw [at_nat]; exact hx
    unfold cntE_markIntS maxMark at hb
    have h0 : addI k 1 = k + 1 := addI_eq (by omega) (by omega)
    have hc : ltI (i : Int) ((mkF_markIntS xs k0).1.length : Int) = true := by simpa [ltI] using hi
    simp only [hc, e0, mkE_markIntS, cond_true, cond_false, Option.bind_some, neI, decide_true, Bool.not_true, ]
theorem cntE_markNodeS_ok (x : TNode) (k : Int) (hk : 0 ≤ k) (hb : k + cntE_markNodeS x ≤ maxMark) : (mkE_markNodeS x k).2 = k + cntE_markNodeS x := by
  unfold cntE_markNodeS maxMark at *
  unfold mkE_markNodeS
  have h0 := markIntS_snd x.vars k (by omega) (by unfold maxMark; omega)
  have h1 := markIntS_snd x.reach ((mkF_markIntS x.vars k).2) (by omega) (by unfold maxMark; omega)
  have h2 : addI ((mkF_markIntS x.reach ((mkF_markIntS x.vars k).2)).2) 1 = ((mkF_markIntS x.reach ((mkF_markIntS x.vars k).2)).2) + 1 := addI_eq (by omega) (by omega)
  have h3 : addI (addI ((mkF_markIntS x.reach ((mkF_markIntS x.vars k).2)).2) 1) 1 = (addI ((mkF_markIntS x.reach ((mkF_markIntS x.vars k).2)).2) 1) + 1 := addI_eq (by omega) (by omega)
  simp only
  omega
theorem markNodeS_snd (xs : List TNode) (k : Int) (hk : 0 ≤ k) (hb : k + cntF_markNodeS xs ≤ maxMark) : (mkF_markNodeS xs k).2 = k + cntF_markNodeS xs := mkRow_snd cntE_markNodeS_ok xs k hk hb
theorem heldNodeS_ok {xs : List TNode} {k0 : Int} (hl : Sm.lg xs) (hk : 0 ≤ k0) (hb : k0 + cntF_markNodeS xs ≤ maxMark) : laws_heldNodeS (mkF_markNodeS xs k0).1 k0 = some (mkF_markNodeS xs k0).2 := by
  unfold laws_heldNodeS
  have hlg : ∀ x ∈ xs, Sm.lg x := hl.2
  rw [held_row (ys := (mkF_markNodeS xs k0).1) (E := mkE_markNodeS) (cnt := cntE_markNodeS) (xs := xs) cntE_markNodeS_ok (fun i x k hx0 hi hx hk hb => ?_) (fun k => by simp [cond_lt]) rfl (by have := hl.1; omega) hk hb]
  · rfl
  · have e0 : at? (mkF_markNodeS xs k0).1 (i : Int) = some (mkE_markNodeS x k).1 := by rw [at_nat]; exact hx
    unfold cntE_markNodeS maxMark at hb
    have h0 := markIntS_snd x.vars k (by omega) (by unfold maxMark; omega)
    have w0 := heldIntS_ok (xs := x.vars) (k0 := k) (hl.2 x hx0).1 (by omega) (by unfold maxMark; omega)
    have n0 : ltI (mkF_markIntS x.vars k).2 0 = false := by simp only [ltI, decide_eq_false_iff_not]; omega
    have h1 := markIntS_snd x.reach ((mkF_markIntS x.vars k).2) (by omega) (by unfold maxMark; omega)
    have w1 := heldIntS_ok (xs := x.reach) (k0 := (mkF_markIntS x.vars k).2) (hl.2 x hx0).2 (by omega) (by unfold maxMark; omega)
    have n1 : ltI (mkF_markIntS x.reach ((mkF_markIntS x.vars k).2)).2 0 = false := by simp only [ltI, decide_eq_false_iff_not]; omega
    have h2 : addI ((mkF_markIntS x.reach ((mkF_markIntS x.vars k).2)).2) 1 = ((mkF_markIntS x.reach ((mkF_markIntS x.vars k).2)).2) + 1 := addI_eq (by omega) (by omega)
    have h3 : addI (addI ((mkF_markIntS x.reach ((mkF_markIntS x.vars k).2)).2) 1) 1 = (addI ((mkF_markIntS x.reach ((mkF_markIntS x.vars k).2)).2) 1) + 1 := addI_eq (by omega) (by omega)
    have hc : ltI (i : Int) ((mkF_markNodeS xs k0).1.length : Int) = true := by simpa [ltI] using hi
    simp only [hc, e0, mkE_markNodeS, cond_true, cond_false, Option.bind_some, neI, decide_true, Bool.not_true, w0, n0, w1, n1]
theorem markStructure_snd (x : TStructure) (k : Int) (hk : 0 ≤ k) (hb : k + cntF_markStructure x ≤ maxMark) : (mkF_markStructure x k).2 = k + cntF_markStructure x := by
  unfold cntF_markStructure maxMark at *
  unfold mkF_markStructure
  have h0 := markNodeS_snd x.nodes k (by omega) (by unfold maxMark; omega)
  have h1 := markIntS_snd x.next ((mkF_markNodeS x.nodes k).2) (by omega) (by unfold maxMark; omega)
  simp only
  omega
theorem cntE_markStructureS_ok (x : TStructure) (k : Int) (hk : 0 ≤ k) (hb : k + cntE_markStructureS x ≤ maxMark) : (mkE_markStructureS x k).2 = k + cntE_markStructureS x := by
  unfold cntE_markStructureS maxMark at *
  unfold mkE_markStructureS
  have h0 := markNodeS_snd x.nodes k (by omega) (by unfold maxMark; omega)
  have h1 := markIntS_snd x.next ((mkF_markNodeS x.nodes k).2) (by omega) (by unfold maxMark; omega)
  simp only
  omega
theorem markStructureS_snd (xs : List TStructure) (k : Int) (hk : 0 ≤ k) (hb : k + cntF_markStructureS xs ≤ maxMark) : (mkF_markStructureS xs k).2 = k + cntF_markStructureS xs := mkRow_snd cntE_markStructureS_ok xs k hk hb
theorem heldStructureS_ok {xs : List TStructure} {k0 : Int} (hl : Sm.lg xs) (hk : 0 ≤ k0) (hb : k0 + cntF_markStructureS xs ≤ maxMark) : laws_heldStructureS (mkF_markStructureS xs k0).1 k0 = some (mkF_markStructureS xs k0).2 := by
  unfold laws_heldStructureS
  have hlg : ∀ x ∈ xs, Sm.lg x := hl.2
  rw [held_row (ys := (mkF_markStructureS xs k0).1) (E := mkE_markStructureS) (cnt := cntE_markStructureS) (xs := xs) cntE_markStructureS_ok (fun i x k hx0 hi hx hk hb => ?_) (fun k => by simp [cond_lt]) rfl (by have := hl.1; omega) hk hb]
  · rfl
  · have e0 : at? (mkF_markStructureS xs k0).1 (i : Int) = some (mkE_markStructureS x k).1 := by rw [at_nat]; exact hx
    unfold cntE_markStructureS maxMark at hb
    have h0 := markNodeS_snd x.nodes k (by omega) (by unfold maxMark; omega)
    have w0 := heldNodeS_ok (xs := x.nodes) (k0 := k) (hl.2 x hx0).1 (by omega) (by unfold maxMark; omega)
    have n0 : ltI (mkF_markNodeS x.nodes k).2 0 = false := by simp only [ltI, decide_eq_false_iff_not]; omega
    have h1 := markIntS_snd x.next ((mkF_markNodeS x.nodes k).2) (by omega) (by unfold maxMark; omega)
    have w1 := heldIntS_ok (xs := x.next) (k0 := (mkF_markNodeS x.nodes k).2) (hl.2 x hx0).2 (by omega) (by unfold maxMark; omega)
    have n1 : ltI (mkF_markIntS x.next ((mkF_markNodeS x.nodes k).2)).2 0 = false := by simp only [ltI, decide_eq_false_iff_not]; omega
    have hc : ltI (i : Int) ((mkF_markStructureS xs k0).1.length : Int) = true := by simpa [ltI] using hi
    simp only [hc, e0, mkE_markStructureS, cond_true, cond_false, Option.bind_some, neI, decide_true, Bool.not_true, w0, n0, w1, n1]
theorem cntE_markHeapS_ok (x : THeap) (k : Int) (hk : 0 ≤ k) (hb : k + cntE_markHeapS x ≤ maxMark) : (mkE_markHeapS x k).2 = k + cntE_markHeapS x := by
  unfold cntE_markHeapS maxMark at *
  unfold mkE_markHeapS
  have h0 := markIntS_snd x.vars k (by omega) (by unfold maxMark; omega)
  have h1 := markIntS_snd x.next ((mkF_markIntS x.vars k).2) (by omega) (by unfold maxMark; omega)
  simp only
  omega
theorem markHeapS_snd (xs : List THeap) (k : Int) (hk : 0 ≤ k) (hb : k + cntF_markHeapS xs ≤ maxMark) : (mkF_markHeapS xs k).2 = k + cntF_markHeapS xs := mkRow_snd cntE_markHeapS_ok xs k hk hb
theorem heldHeapS_ok {xs : List THeap} {k0 : Int} (hl : Sm.lg xs) (hk : 0 ≤ k0) (hb : k0 + cntF_markHeapS xs ≤ maxMark) : laws_heldHeapS (mkF_markHeapS xs k0).1 k0 = some (mkF_markHeapS xs k0).2 := by
  unfold laws_heldHeapS
  have hlg : ∀ x ∈ xs, Sm.lg x := hl.2
  rw [held_row (ys := (mkF_markHeapS xs k0).1) (E := mkE_markHeapS) (cnt := cntE_markHeapS) (xs := xs) cntE_markHeapS_ok (fun i x k hx0 hi hx hk hb => ?_) (fun k => by simp [cond_lt]) rfl (by have := hl.1; omega) hk hb]
  · rfl
  · have e0 : at? (mkF_markHeapS xs k0).1 (i : Int) = some (mkE_markHeapS x k).1 := by rw [at_nat]; exact hx
    unfold cntE_markHeapS maxMark at hb
    have h0 := markIntS_snd x.vars k (by omega) (by unfold maxMark; omega)
    have w0 := heldIntS_ok (xs := x.vars) (k0 := k) (hl.2 x hx0).1 (by omega) (by unfold maxMark; omega)
    have n0 : ltI (mkF_markIntS x.vars k).2 0 = false := by simp only [ltI, decide_eq_false_iff_not]; omega
    have h1 := markIntS_snd x.next ((mkF_markIntS x.vars k).2) (by omega) (by unfold maxMark; omega)
    have w1 := heldIntS_ok (xs := x.next) (k0 := (mkF_markIntS x.vars k).2) (hl.2 x hx0).2 (by omega) (by unfold maxMark; omega)
    have n1 : ltI (mkF_markIntS x.next ((mkF_markIntS x.vars k).2)).2 0 = false := by simp only [ltI, decide_eq_false_iff_not]; omega
    have hc : ltI (i : Int) ((mkF_markHeapS xs k0).1.length : Int) = true := by simpa [ltI] using hi
    simp only [hc, e0, mkE_markHeapS, cond_true, cond_false, Option.bind_some, neI, decide_true, Bool.not_true, w0, n0, w1, n1]
end Go.Ev

namespace Go.Ev
open Wf (wf)
open Sm (sm lg)
/-! structures: their form, copies -/
def truthsB (xs : List Int) : Bool := xs.all fun x => decide (0 ≤ x ∧ x ≤ 2)
theorem all_range {α : Type} (xs : List α) (p : α → Bool) (d : α) : (List.range xs.length).all (fun i => p (xs.getD i d)) = xs.all p := by
  have h : (List.range xs.length).map (fun i => xs.getD i d) = xs := by
    apply List.ext_getElem
    · simp
    · intro i h1 h2
      simp [List.getD, h2]
  have h2 : ((List.range xs.length).map (fun i => xs.getD i d)).all p = (List.range xs.length).all (fun i => p (xs.getD i d)) := by rw [List.all_map]; rfl
  rw [h] at h2
  exact h2.symm
theorem spec_truths (xs : List Int) (h : small xs.length) : spec_l12Truths xs = some (truthsB xs) := by
  unfold small at h
  unfold spec_l12Truths
  refine Tot.eq (Tot.bind (P := (· = if truthsB xs then .inr () else .inl ())) (Tot.all xs.length (fun i => decide (0 ≤ xs.getD i 0 ∧ xs.getD i 0 ≤ 2)) () () (fun i hi => ?_) ?_ ?_) fun r hr => ?_)
  · simp only [ltI, cond_dec, getD_at hi 0, Option.bind_some, spec_IsTruth, l1In_eq]
    rw [if_pos (by omega), addI_eq (by omega) (by omega)]
    by_cases hc : 0 ≤ xs.getD i 0 ∧ xs.getD i 0 ≤ 2
    · rw [if_pos hc, if_pos (by simpa using hc)]; exact Tot.ret rfl
    · rw [if_neg hc, if_neg (by simpa using hc)]; exact Tot.ret rfl
  · simp only [ltI, cond_dec]
    rw [if_neg (by omega)]
    exact Tot.ret rfl
  · rw [all_range xs (fun x => decide (0 ≤ x ∧ x ≤ 2)) 0]
    rfl
  · subst hr
    cases truthsB xs <;> exact Tot.ret rfl
theorem impl_truths (xs : List Int) (h : small xs.length) : impl_areTruths xs = some (truthsB xs) := by
  unfold impl_areTruths
  rw [containsFunc_int xs (fun x0 => impl_areTruths_1 x0) (fun x => !decide (0 ≤ x ∧ x ≤ 2)) (fun x _ => by unfold impl_areTruths_1 impl_IsTruth; rw [within_eq]; rfl) h]
  simp only [Option.bind_some, Option.some.injEq, notB, truthsB]
  rw [List.not_any_eq_all_not]
  congr 1
  funext x
  simp
def nodeOkB (vars : Int) (x : TNode) : Bool := decide ((x.vars.length : Int) = vars) && (decide ((x.reach.length : Int) = vars) && (truthsB x.vars && (truthsB x.reach && (decide (0 ≤ x.shared ∧ x.shared ≤ 2) && decide (0 ≤ x.many ∧ x.many ≤ 1)))))
def isStrB (vars : Int) (s : TStructure) : Bool := decide (1 ≤ vars ∧ vars ≤ 4) && (decide (s.nodes.length ≤ 10) && (decide (s.next.length = s.nodes.length * s.nodes.length) && (truthsB s.next && s.nodes.all (nodeOkB vars))))
/-- a structure whose rows are short -/
structure shortS (s : TStructure) : Prop where
  n : small s.nodes.length
  x : small s.next.length
  e : ∀ y ∈ s.nodes, okN y
theorem shortS.ok {s : TStructure} (h : shortS s) : okS s := ⟨h.n, h.e⟩
theorem short_sm {s : TStructure} (h : sm s) : shortS s := ⟨by have := h.1.1; unfold small; omega, by have := h.2.1; unfold small; omega, fun y hy => ⟨by have := (h.1.2 y hy).1.1; unfold small; omega, by have := (h.1.2 y hy).2.1; unfold small; omega⟩⟩
theorem spec_isStructure (vars : Int) (s : TStructure) (h : shortS s) : spec_IsStructure vars s = some (isStrB vars s) := by
  have hn := h.n
  have hq := sq_small hn
  unfold small at hn
  unfold spec_IsStructure
  refine Tot.eq (Tot.bind (P := (· = if s.nodes.all (nodeOkB vars) then .inr () else .inl ())) (Tot.all s.nodes.length (fun i => nodeOkB vars (s.nodes.getD i zN)) () () (fun i hi => ?_) ?_ ?_) fun r hr => ?_)
  · have hm : s.nodes.getD i zN ∈ s.nodes := by simp [List.getD, hi]
    have ho := h.e _ hm
    simp only [ltI, cond_dec, getD_at hi zN, Option.bind_some]
    rw [if_pos (by omega), addI_eq (by omega) (by omega)]
    generalize s.nodes.getD i zN = y at *
    simp only [neI, cond_ndec, spec_truths _ ho.1, spec_truths _ ho.2, spec_IsTruth, l1In_eq, Option.bind_some, cond_dec]
    unfold nodeOkB
    by_cases h1 : (y.vars.length : Int) = vars
    · rw [if_pos h1, decide_eq_true h1]
      by_cases h2 : (y.reach.length : Int) = vars
      · rw [if_pos h2, decide_eq_true h2]
        cases truthsB y.vars <;> cases truthsB y.reach <;> try exact Tot.ret rfl
        simp only [cond_true, Bool.true_and]
        by_cases h3 : 0 ≤ y.shared ∧ y.shared ≤ 2
        · rw [if_pos h3, decide_eq_true h3]
          by_cases h4 : 0 ≤ y.many ∧ y.many ≤ 1
          · rw [if_pos h4, decide_eq_true h4]; exact Tot.ret rfl
          · rw [if_neg h4, decide_eq_false h4]; exact Tot.ret rfl
        · rw [if_neg h3, decide_eq_false h3]; exact Tot.ret rfl
      · rw [if_neg h2, decide_eq_false h2]; exact Tot.ret rfl
    · rw [if_neg h1, decide_eq_false h1]; exact Tot.ret rfl
  · simp only [ltI, cond_dec]
    rw [if_neg (by omega)]
    exact Tot.ret rfl
  · rw [all_range s.nodes (nodeOkB vars) zN]
  · subst hr
    have h3 : ((s.nodes.length * s.nodes.length : Nat) : Int) = (s.nodes.length : Int) * s.nodes.length := by simp
    unfold isStrB
    cases hall : s.nodes.all (nodeOkB vars) with
    | false => simp only [Bool.and_false]; exact Tot.ret rfl
    | true =>
      simp only [if_true, Sum.elim_inr, l1In_eq, Option.bind_some, cond_dec, leI, eqI, spec_truths _ h.x, Bool.and_true]
      rw [mulI_eq (by omega) (by omega)]
      by_cases h1 : 1 ≤ vars ∧ vars ≤ 4
      · rw [if_pos h1, decide_eq_true h1, Bool.true_and]
        by_cases h2 : s.nodes.length ≤ 10
        · rw [if_pos (by omega), decide_eq_true h2, Bool.true_and]
          by_cases h4 : s.next.length = s.nodes.length * s.nodes.length
          · rw [if_pos (by omega), decide_eq_true h4, Bool.true_and]; exact Tot.ret rfl
          · rw [if_neg (by omega), decide_eq_false h4]; exact Tot.ret rfl
        · rw [if_neg (by omega), decide_eq_false h2]; exact Tot.ret rfl
      · rw [if_neg h1, decide_eq_false h1]; exact Tot.ret rfl
theorem containsFunc_node (xs : List TNode) (f : TNode → Option Bool) (p : TNode → Bool) (hf : ∀ x ∈ xs, f x = some (p x)) (hl : small xs.length) : slices_ContainsFunc_Node xs f = some (xs.any p) := by
  unfold slices_ContainsFunc_Node slices_IndexFunc_Node
  rw [indexF xs f p hf hl, ← containsF_of]
  cases xs.findIdx? p <;> rfl
theorem impl_isStructure (vars : Int) (s : TStructure) (h : shortS s) : impl_IsStructure vars s = some (isStrB vars s) := by
  have hn := h.n
  have hq := sq_small hn
  unfold small at hn
  have h3 : ((s.nodes.length * s.nodes.length : Nat) : Int) = (s.nodes.length : Int) * s.nodes.length := by simp
  have hc := containsFunc_node s.nodes (fun x0 => impl_IsStructure_1 x0 vars) (fun y => !nodeOkB vars y) (fun y hy => by
    have ho := h.e y hy
    unfold impl_IsStructure_1 nodeOkB
    simp only [neI, cond_ndec, impl_truths _ ho.1, impl_truths _ ho.2, impl_IsTruth, within_eq, Option.bind_some, cond_dec]
    by_cases h1 : (y.vars.length : Int) = vars
    · rw [if_pos h1, decide_eq_true h1]
      by_cases h2 : (y.reach.length : Int) = vars
      · rw [if_pos h2, decide_eq_true h2]
        cases truthsB y.vars <;> cases truthsB y.reach <;> try rfl
        simp only [cond_true, Bool.true_and]
        by_cases h3 : 0 ≤ y.shared ∧ y.shared ≤ 2
        · rw [if_pos h3, decide_eq_true h3]
          by_cases h4 : y.many = 0
          · rw [if_pos h4]; simp [h4]
          · rw [if_neg h4]
            by_cases h5 : y.many = 1
            · simp [h5]
            · have : ¬ (0 ≤ y.many ∧ y.many ≤ 1) := by omega
              simp [h5, this]
        · rw [if_neg h3, decide_eq_false h3]; rfl
      · rw [if_neg h2, decide_eq_false h2]; rfl
    · rw [if_neg h1, decide_eq_false h1]; rfl) h.n
  unfold impl_IsStructure isStrB
  simp only [within_eq, Option.bind_some, cond_dec, ltI, neI, cond_ndec, impl_truths _ h.x]
  rw [mulI_eq (by omega) (by omega)]
  by_cases h1 : 1 ≤ vars ∧ vars ≤ 4
  · rw [if_pos h1, decide_eq_true h1, Bool.true_and]
    by_cases h2 : s.nodes.length ≤ 10
    · rw [if_neg (by omega), decide_eq_true h2, Bool.true_and]
      by_cases h4 : s.next.length = s.nodes.length * s.nodes.length
      · rw [if_pos (by omega), decide_eq_true h4, Bool.true_and]
        cases truthsB s.next with
        | false => rfl
        | true =>
          rw [cond_true, hc]
          simp only [Option.bind_some, notB, Bool.true_and, Option.some.injEq]
          rw [List.not_any_eq_all_not]
          congr 1
          funext y
          simp
      · rw [if_neg (by omega), decide_eq_false h4]; rfl
    · rw [if_pos (by omega), decide_eq_false h2]; rfl
  · rw [if_neg h1, decide_eq_false h1]; rfl
theorem copyNode (y : TNode) (h : okN y) : spec_l12CopyNode y = some y := by
  have h1 := h.1
  have h2 := h.2
  unfold small at h1 h2
  unfold spec_l12CopyNode
  simp only [List.length_nil, Nat.zero_add]
  rw [room_small (by omega) (by omega), Option.bind_some, room_small (by omega) (by omega)]
  rfl
theorem ownNode (y : TNode) (h : okN y) : impl_Node_own y = some y := by
  unfold impl_Node_own
  rw [clone_int _ h.1, Option.bind_some, clone_int _ h.2]
  rfl
theorem spec_copy (s : TStructure) (h : shortS s) : spec_l12Copy s = some s := by
  have hn := h.n
  have hx := h.x
  unfold small at hn hx
  unfold spec_l12Copy
  simp only [List.length_nil, Nat.zero_add]
  rw [room_small (by omega) (by omega), Option.bind_some]
  refine Tot.eq (Tot.bind (P := (· = s.nodes)) (Tot.loop (fun i q => q = ((i : Int), s.nodes.take i)) s.nodes.length (by simp) fun i q hI hi => ?_) fun r hr => by subst hr; exact Tot.ret rfl)
  subst hI
  by_cases hlt : i < s.nodes.length
  · simp only [ltI, cond_dec, at_nat, List.getElem?_eq_getElem hlt, Option.bind_some, copyNode _ (h.e _ (List.getElem_mem hlt)), List.length_take, List.length_singleton]
    rw [if_pos (by omega), room_small (by omega) (by omega), Option.bind_some, addI_eq (by omega) (by omega)]
    exact Tot.ret ⟨hlt, by rw [take_snoc1 hlt]; rfl⟩
  · simp only [ltI, cond_dec]
    rw [if_neg (by omega)]
    exact Tot.ret (List.take_of_length_le (by omega))
theorem impl_owns (s : TStructure) (h : shortS s) : impl_Structure_own s = some s := by
  have hn := h.n
  unfold small at hn
  unfold impl_Structure_own
  rw [clone_int _ h.x, Option.bind_some]
  refine Tot.eq (Tot.bind (P := (· = s.nodes)) (Tot.loop (fun i q => q = ((i : Int), s.nodes.take i)) s.nodes.length (by simp) fun i q hI hi => ?_) fun r hr => by subst hr; exact Tot.ret rfl)
  subst hI
  by_cases hlt : i < s.nodes.length
  · simp only [ltI, cond_dec, at_nat, List.getElem?_eq_getElem hlt, Option.bind_some, ownNode _ (h.e _ (List.getElem_mem hlt)), List.length_take, List.length_singleton]
    rw [if_pos (by omega), room_small (by omega) (by omega), Option.bind_some, addI_eq (by omega) (by omega)]
    exact Tot.ret ⟨hlt, by rw [take_snoc1 hlt]; rfl⟩
  · simp only [ltI, cond_dec]
    rw [if_neg (by omega)]
    exact Tot.ret (List.take_of_length_le (by omega))
end Go.Ev

namespace Go.Ev
open Wf (wf)
open Sm (sm lg)
/-! focus -/
def cellP (k : Int) (x : TNode) : Bool := decide (0 ≤ k ∧ k ≤ (x.vars.length : Int) - 1) && (decide (x.vars.getD k.toNat 0 = 2) && decide (x.many = 0))
def cellF (s : TStructure) (k : Int) : Int := match s.nodes.findIdx? (cellP k) with | some j => (j : Int) | none => -1
theorem spec_l13At_eq (xs : List Int) (k : Int) (h : small xs.length) : spec_l13At xs k = some (if 0 ≤ k ∧ k ≤ (xs.length : Int) - 1 then xs.getD k.toNat 0 else 1) := by
  unfold small at h
  unfold spec_l13At
  rw [l1In_eq, subI_eq (by omega) (by omega)]
  simp only [Option.bind_some, cond_dec]
  by_cases h1 : 0 ≤ k ∧ k ≤ (xs.length : Int) - 1
  · rw [if_pos h1, if_pos h1, at_in (by omega)]; rfl
  · rw [if_neg h1, if_neg h1]
theorem first_find {α : Type} (xs : List α) (p : α → Bool) (d : α) : (List.range xs.length).findSome? (fun i => if p (xs.getD i d) then some (i : Int) else none) = (xs.findIdx? p).map fun j : Nat => (j : Int) := by
  cases h : xs.findIdx? p with
  | none =>
    rw [List.findIdx?_eq_none_iff] at h
    rw [Option.map_none, List.findSome?_eq_none_iff]
    intro i hi
    have hi := List.mem_range.1 hi
    have : xs.getD i d = xs[i] := by simp [List.getD, hi]
    rw [this, h _ (List.getElem_mem hi)]
    rfl
  | some j =>
    rw [List.findIdx?_eq_some_iff_getElem] at h
    obtain ⟨hj, hp, hmin⟩ := h
    rw [Option.map_some, List.findSome?_eq_some_iff]
    refine ⟨List.range j, j, List.range' (j + 1) (xs.length - j - 1), ?_, ?_, fun i hi => ?_⟩
    · rw [List.range_eq_range', List.range_eq_range', ← List.range'_succ, show xs.length - j - 1 + 1 = xs.length - j by omega]
      have := @List.range'_append 0 j (xs.length - j) 1
      simp only [Nat.one_mul, Nat.zero_add] at this
      rw [this]
      congr 1
      omega
    · have : xs.getD j d = xs[j] := by simp [List.getD, hj]
      rw [this, hp]; rfl
    · have hi := List.mem_range.1 hi
      have : xs.getD i d = xs[i]'(by omega) := by simp [List.getD, show i < xs.length by omega]
      rw [this, if_neg (by simpa using hmin i hi)]
theorem spec_cell (s : TStructure) (k : Int) (h : shortS s) : spec_l19Cell s k = some (cellF s k) := by
  have hn := h.n
  unfold small at hn
  unfold spec_l19Cell
  refine Tot.eq (Tot.bind (P := (· = firstR ((s.nodes.findIdx? (cellP k)).map fun j : Nat => (j : Int)) ())) (Tot.first s.nodes.length (fun i => if cellP k (s.nodes.getD i zN) then some (i : Int) else none) () (fun i hi => ?_) ?_ ?_) fun r hr => ?_)
  · have hm : s.nodes.getD i zN ∈ s.nodes := by simp [List.getD, hi]
    have ho := h.e _ hm
    simp only [ltI, cond_dec, getD_at hi zN, Option.bind_some, spec_l13At_eq _ _ ho.1, eqI]
    rw [if_pos (by omega), addI_eq (by omega) (by omega)]
    unfold cellP
    generalize s.nodes.getD i zN = y at *
    by_cases h1 : 0 ≤ k ∧ k ≤ (y.vars.length : Int) - 1
    · rw [if_pos h1, decide_eq_true h1]
      by_cases h2 : y.vars.getD k.toNat 0 = 2
      · rw [if_pos h2, decide_eq_true h2]
        by_cases h3 : y.many = 0
        · rw [if_pos h3, decide_eq_true h3]; exact Tot.ret rfl
        · rw [if_neg h3, decide_eq_false h3]; exact Tot.ret rfl
      · rw [if_neg h2, decide_eq_false h2]; exact Tot.ret rfl
    · rw [if_neg h1, decide_eq_false h1, if_neg (by omega)]; exact Tot.ret rfl
  · simp only [ltI, cond_dec]
    rw [if_neg (by omega)]
    exact Tot.ret rfl
  · rw [first_find s.nodes (cellP k) zN]
  · subst hr
    unfold cellF
    cases s.nodes.findIdx? (cellP k) <;> exact Tot.ret rfl
theorem impl_focused1 (x : TNode) (k : Int) (h : okN x) : impl_focused_1 x k = some (cellP k x) := by
  have h1 := h.1
  unfold small at h1
  unfold impl_focused_1 cellP
  rw [within_eq, subI_eq (by omega) (by omega)]
  simp only [Option.bind_some, cond_dec, eqI]
  by_cases h2 : 0 ≤ k ∧ k ≤ (x.vars.length : Int) - 1
  · rw [if_pos h2, decide_eq_true h2, at_in (by omega)]
    simp only [Option.bind_some]
    by_cases h3 : x.vars.getD k.toNat 0 = 2
    · rw [if_pos h3, decide_eq_true h3]; rfl
    · rw [if_neg h3, decide_eq_false h3]; rfl
  · rw [if_neg h2, decide_eq_false h2]; rfl
def tgtF (s : TStructure) (b : Int) : List Int := (List.range s.nodes.length).flatMap fun j : Nat => if nextV s b (j : Int) = 0 then [] else [(j : Int)]
theorem tgt_len (s : TStructure) (b : Int) : (tgtF s b).length ≤ s.nodes.length := by
  have := flatMap_bound (List.range s.nodes.length) (fun j : Nat => if nextV s b (j : Int) = 0 then [] else [(j : Int)]) 1 fun x _ => by
    by_cases h : nextV s b x = 0 <;> simp [h]
  simpa [tgtF] using this
theorem tgt_mem {s : TStructure} {b t : Int} (h : t ∈ tgtF s b) : 0 ≤ t ∧ t < (s.nodes.length : Int) := by
  simp only [tgtF, List.mem_flatMap, List.mem_range] at h
  obtain ⟨j, hj, ht⟩ := h
  split at ht
  · cases ht
  · simp only [List.mem_singleton] at ht
    omega
theorem spec_targets (s : TStructure) (b : Int) (h : small s.nodes.length) : spec_l19Targets s b = some (tgtF s b) := by
  have hn := h
  unfold small at hn
  unfold spec_l19Targets
  refine Tot.eq (Tot.bind (P := (· = tgtF s b)) (Tot.flat (fun (q : List Int) i => (q, i)) 0 (List.range s.nodes.length) (fun j : Nat => if nextV s b (j : Int) = 0 then [] else [(j : Int)]) (acc := []) rfl (by simp [tgtF]) (fun i x q hx hq => ?_) fun q => ?_) fun r hr => by subst hr; exact Tot.ret rfl)
  · obtain ⟨hi, rfl⟩ : i < s.nodes.length ∧ i = x := by
      have := List.getElem?_eq_some_iff.1 hx
      simpa using this
    have hb := tgt_len s b
    unfold tgtF at hb
    have hq2 := Nat.le_trans hq (by simpa using hb)
    simp only [Int.zero_add, ltI, cond_dec, spec_nextOf s _ _ h, Option.bind_some, neI, cond_ndec, List.length_singleton]
    rw [if_pos (by omega), addI_eq (by omega) (by omega)]
    by_cases h0 : nextV s b i = 0
    · rw [if_pos h0, if_pos h0, List.append_nil]; exact Tot.ret rfl
    · rw [if_neg h0, if_neg h0]
      rw [if_neg h0, List.length_singleton] at hq2
      rw [room_small (by omega) (by omega)]
      exact Tot.ret rfl
  · simp only [Int.zero_add, ltI, cond_dec, List.length_range]
    rw [if_neg (by omega)]
    exact Tot.ret rfl
theorem impl_focus (s : TStructure) (k : Int) (h : shortS s) : impl_focused s k = some (cellF s k, if 0 ≤ cellF s k then tgtF s (cellF s k) else []) := by
  have hn := h.n
  unfold small at hn
  have hix : slices_IndexFunc_Node s.nodes (fun x0 => impl_focused_1 x0 k) = some (cellF s k) := by
    unfold slices_IndexFunc_Node cellF
    rw [indexF s.nodes (fun x0 => impl_focused_1 x0 k) (cellP k) (fun x hx => impl_focused1 x k (h.e x hx)) h.n]
    cases s.nodes.findIdx? (cellP k) <;> rfl
  unfold impl_focused
  rw [hix, Option.bind_some]
  generalize cellF s k = b
  by_cases hb : 0 ≤ b
  · rw [if_pos hb]
    refine Tot.eq (Tot.bind (P := (· = tgtF s b)) (Tot.flat (fun (q : List Int) i => (q, i)) 0 (List.range s.nodes.length) (fun j : Nat => if nextV s b (j : Int) = 0 then [] else [(j : Int)]) (acc := []) rfl (by simp [tgtF]) (fun i x q hx hq => ?_) fun q => ?_) fun r hr => by subst hr; exact Tot.ret rfl)
    · obtain ⟨hi, rfl⟩ : i < s.nodes.length ∧ i = x := by
        have := List.getElem?_eq_some_iff.1 hx
        simpa using this
      have hb2 := tgt_len s b
      unfold tgtF at hb2
      have hq2 := Nat.le_trans hq (by simpa using hb2)
      simp only [Int.zero_add, ltI, leI, cond_dec, impl_nextOf s _ _ h.n, Option.bind_some, neI, cond_ndec, List.length_singleton]
      rw [if_pos (by omega), if_pos hb, addI_eq (by omega) (by omega)]
      by_cases h0 : nextV s b i = 0
      · rw [if_pos h0, if_pos h0, List.append_nil]; exact Tot.ret rfl
      · rw [if_neg h0, if_neg h0]
        rw [if_neg h0, List.length_singleton] at hq2
        rw [room_small (by omega) (by omega)]
        exact Tot.ret rfl
    · simp only [Int.zero_add, ltI, cond_dec, List.length_range]
      rw [if_neg (by omega)]
      exact Tot.ret rfl
  · rw [if_neg hb]
    refine Tot.eq (Tot.bind (P := (· = [])) (Tot.loop (fun i q => q = ([], (i : Int))) s.nodes.length rfl fun i q hI hi => ?_) fun r hr => by subst hr; exact Tot.ret rfl)
    subst hI
    by_cases hlt : i < s.nodes.length
    · simp only [ltI, leI, cond_dec]
      rw [if_pos (by omega), if_neg hb, addI_eq (by omega) (by omega)]
      exact Tot.ret ⟨hlt, rfl⟩
    · simp only [ltI, cond_dec]
      rw [if_neg (by omega)]
      exact Tot.ret rfl
/-! one target -/
def setR (next : List Int) (base : Nat) (t : Int) : Nat → List Int
  | 0 => next
  | m + 1 => (setR next base t m).set (base + m) (t3 (decide ((m : Int) = t)))
theorem setR_len (next : List Int) (base : Nat) (t : Int) : ∀ m, (setR next base t m).length = next.length
  | 0 => rfl
  | m + 1 => by rw [setR, List.length_set, setR_len next base t m]
def toF (s : TStructure) (b t : Int) : TStructure :=
  ⟨if 0 ≤ t then s.nodes.set t.toNat { s.nodes.getD t.toNat zN with many := 0 } else s.nodes, setR s.next (b.toNat * s.nodes.length) t s.nodes.length⟩
theorem spec_to (s : TStructure) (b t : Int) (h : shortS s) (hl : s.next.length = s.nodes.length * s.nodes.length) (hb : 0 ≤ b ∧ b < (s.nodes.length : Int)) (ht : t < (s.nodes.length : Int)) : spec_l19To s b t = some (toF s b t) := by
  have hn := h.n
  have hq := sq_small hn
  unfold small at hn
  unfold spec_l19To
  rw [spec_copy s h, Option.bind_some]
  have hbn : (b.toNat : Int) = b := by omega
  have hm : b * (s.nodes.length : Int) = ((b.toNat * s.nodes.length : Nat) : Int) := by rw [Int.natCast_mul, hbn]
  have hle : b.toNat * s.nodes.length + s.nodes.length ≤ s.nodes.length * s.nodes.length := by
    have := Nat.mul_le_mul_right s.nodes.length (show b.toNat + 1 ≤ s.nodes.length by omega)
    rwa [Nat.add_mul, Nat.one_mul] at this
  refine Tot.eq (Tot.bind (P := (· = setR s.next (b.toNat * s.nodes.length) t s.nodes.length)) (Tot.loop (fun i q => q = ((i : Int), setR s.next (b.toNat * s.nodes.length) t i)) s.nodes.length rfl fun i q hI hi => ?_) fun r hr => ?_)
  · subst hI
    by_cases hlt : i < s.nodes.length
    · simp only [ltI, cond_dec, eqI, l3Of_eq, Option.bind_some]
      rw [if_pos (by omega), mulI_eq (by omega) (by omega), hm, addI_eq (by omega) (by omega), ← Int.natCast_add, at_nat, List.getElem?_eq_getElem (by rw [setR_len]; omega), Option.bind_some, Int.toNat_natCast, addI_eq (by omega) (by omega)]
      exact Tot.ret ⟨hlt, rfl⟩
    · simp only [ltI, cond_dec]
      rw [if_neg (by omega)]
      have : i = s.nodes.length := by omega
      subst this
      exact Tot.ret rfl
  · subst hr
    unfold toF
    simp only [leI, cond_dec]
    by_cases h0 : 0 ≤ t
    · rw [if_pos h0, if_pos h0, at_in' (by omega) zN]
      exact Tot.ret rfl
    · rw [if_neg h0, if_neg h0]
      exact Tot.ret rfl
theorem pointing_eq (s : TStructure) (b t : Int) (h : shortS s) : impl_pointing s b t = spec_l19To s b t := by
  unfold impl_pointing spec_l19To
  rw [impl_owns s h, spec_copy s h]
  simp only [Option.bind_some, truthOf_eq]
theorem toF_nodes (s : TStructure) (b t : Int) : (toF s b t).nodes.length = s.nodes.length := by
  unfold toF
  simp only
  split <;> simp
theorem toF_next (s : TStructure) (b t : Int) : (toF s b t).next.length = s.next.length := setR_len _ _ _ _
theorem toF_node {s : TStructure} {b t : Int} (ht : t < (s.nodes.length : Int)) {y : TNode} (hy : y ∈ (toF s b t).nodes) : ∃ x ∈ s.nodes, y.vars = x.vars ∧ y.reach = x.reach := by
  unfold toF at hy
  simp only at hy
  split at hy
  · rename_i h0
    have hlt : t.toNat < s.nodes.length := by omega
    rcases List.mem_or_eq_of_mem_set hy with hy | hy
    · exact ⟨y, hy, rfl, rfl⟩
    · subst hy
      have hg : s.nodes.getD t.toNat zN = s.nodes[t.toNat] := by simp [List.getD, hlt]
      exact ⟨s.nodes[t.toNat], List.getElem_mem hlt, by show (s.nodes.getD t.toNat zN).vars = _; rw [hg], by show (s.nodes.getD t.toNat zN).reach = _; rw [hg]⟩
  · exact ⟨y, hy, rfl, rfl⟩
theorem sm_to {s : TStructure} {b t : Int} (h : sm s) (ht : t < (s.nodes.length : Int)) : sm (toF s b t) := by
  refine ⟨⟨by rw [toF_nodes]; exact h.1.1, fun y hy => ?_⟩, ⟨by rw [toF_next]; exact h.2.1, fun _ _ => trivial⟩⟩
  obtain ⟨x, hx, e1, e2⟩ := toF_node ht hy
  have := h.1.2 x hx
  exact ⟨by rw [e1]; exact this.1, by rw [e2]; exact this.2⟩
/-! a node divided in two -/
def frm (n : Nat) (t : Int) (i : Nat) : Int := if i = n then t else (i : Int)
def splitF (s : TStructure) (t : Int) : TStructure :=
  ⟨s.nodes ++ [s.nodes.getD t.toNat zN], (List.range (s.nodes.length + 1)).flatMap fun i => (List.range (s.nodes.length + 1)).map fun j => nextV s (frm s.nodes.length t i) (frm s.nodes.length t j)⟩
theorem spec_split (s : TStructure) (t : Int) (h : shortS s) (hn10 : s.nodes.length ≤ 10) (ht : 0 ≤ t ∧ t < (s.nodes.length : Int)) : spec_l19Split s t = some (splitF s t) := by
  unfold spec_l19Split
  have hfrom : (List.range s.nodes.length).map (fun i : Nat => (i : Int)) ++ [t] = (List.range (s.nodes.length + 1)).map (frm s.nodes.length t) := by
    rw [List.range_succ, List.map_append]
    congr 1
    · refine List.map_congr_left fun i hi => ?_
      have := List.mem_range.1 hi
      unfold frm
      rw [if_neg (by omega)]
    · simp [frm]
  refine Tot.eq (Tot.bind (P := (· = ((List.range s.nodes.length).map (fun i : Nat => (i : Int)), s.nodes))) (Tot.loop (fun i q => q = ((List.range i).map (fun i : Nat => (i : Int)), (i : Int), s.nodes.take i)) s.nodes.length (by simp) fun i q hI hi => ?_) fun r hr => ?_)
  · subst hI
    by_cases hlt : i < s.nodes.length
    · simp only [ltI, cond_dec, at_nat, List.getElem?_eq_getElem hlt, Option.bind_some, copyNode _ (h.e _ (List.getElem_mem hlt)), List.length_take, List.length_singleton, List.length_map, List.length_range]
      rw [if_pos (by omega), room_small (by omega) (by omega), Option.bind_some, room_small (by omega) (by omega), Option.bind_some, addI_eq (by omega) (by omega)]
      exact Tot.ret ⟨hlt, by rw [take_snoc1 hlt, List.range_succ, List.map_append]; rfl⟩
    · simp only [ltI, cond_dec]
      rw [if_neg (by omega)]
      have : i = s.nodes.length := by omega
      subst this
      exact Tot.ret (by simp)
  · subst hr
    have hmem : s.nodes.getD t.toNat zN ∈ s.nodes := by
      have : t.toNat < s.nodes.length := by omega
      simp [List.getD, this]
    simp only [at_in' ht zN, Option.bind_some, copyNode _ (h.e _ hmem), List.length_map, List.length_range, List.length_singleton]
    rw [room_small (by omega) (by omega), Option.bind_some, room_small (by omega) (by omega), Option.bind_some, hfrom]
    have hgo : ∀ i : Nat, i < s.nodes.length + 1 → at? ((List.range (s.nodes.length + 1)).map (frm s.nodes.length t)) (i : Int) = some (frm s.nodes.length t i) := fun i hi => by
      rw [at_nat]; simp [hi]
    have hrow : ∀ m, ((List.range m).flatMap fun i => (List.range (s.nodes.length + 1)).map fun j => nextV s (frm s.nodes.length t i) (frm s.nodes.length t j)).length = m * (s.nodes.length + 1) := fun m => by
      have := flatMap_len (List.range m) (fun i => (List.range (s.nodes.length + 1)).map fun j => nextV s (frm s.nodes.length t i) (frm s.nodes.length t j)) (s.nodes.length + 1) (fun x _ => by simp)
      simpa using this
    refine Tot.bind (P := (· = (splitF s t).next)) (Tot.loop (fun i q => q = ((i : Int), (List.range i).flatMap fun i => (List.range (s.nodes.length + 1)).map fun j => nextV s (frm s.nodes.length t i) (frm s.nodes.length t j))) (s.nodes.length + 1) rfl fun i q hI hi => ?_) fun r hr => by subst hr; exact Tot.ret rfl
    subst hI
    by_cases hlt : i < s.nodes.length + 1
    · simp only [leI, cond_dec]
      rw [if_pos (by omega)]
      have hi11 : i * (s.nodes.length + 1) ≤ 11 * 11 := Nat.mul_le_mul (by omega) (by omega)
      refine Tot.bind (P := (· = (List.range (i + 1)).flatMap fun i => (List.range (s.nodes.length + 1)).map fun j => nextV s (frm s.nodes.length t i) (frm s.nodes.length t j))) (Tot.loop (fun j q => q = ((j : Int), ((List.range i).flatMap fun i => (List.range (s.nodes.length + 1)).map fun j => nextV s (frm s.nodes.length t i) (frm s.nodes.length t j)) ++ (List.range j).map fun j => nextV s (frm s.nodes.length t i) (frm s.nodes.length t j))) (s.nodes.length + 1) (by simp) fun j q hJ hj => ?_) fun r hr => ?_
      · subst hJ
        by_cases hjl : j < s.nodes.length + 1
        · simp only [hgo i hlt, hgo j hjl, Option.bind_some, spec_nextOf s _ _ h.n, List.length_append, hrow, List.length_map, List.length_range, List.length_singleton]
          rw [if_pos (by omega), room_small (by omega) (by omega), Option.bind_some, addI_eq (by omega) (by omega)]
          exact Tot.ret ⟨hjl, by simp only [List.range_succ, List.map_append, List.map_cons, List.map_nil, List.append_assoc]; rfl⟩
        · simp only
          rw [if_neg (by omega)]
          have : j = s.nodes.length + 1 := by omega
          subst this
          exact Tot.ret (by rw [List.range_succ (n := i), List.flatMap_append]; simp)
      · subst hr
        rw [addI_eq (by omega) (by omega)]
        exact Tot.ret ⟨hlt, rfl⟩
    · simp only [leI, cond_dec]
      rw [if_neg (by omega)]
      have : i = s.nodes.length + 1 := by omega
      subst this
      exact Tot.ret rfl
theorem impl_split (s : TStructure) (t : Int) (h : shortS s) (hn10 : s.nodes.length ≤ 10) (ht : 0 ≤ t ∧ t < (s.nodes.length : Int)) : impl_divided s t = some (splitF s t) := by
  have hsame : ∀ i : Nat, impl_divided_1 (i : Int) (s.nodes.length : Int) t = some (frm s.nodes.length t i) := fun i => by
    unfold impl_divided_1 frm
    simp only [eqI, cond_dec]
    by_cases hi : i = s.nodes.length
    · rw [if_pos (by omega), if_pos hi]
    · rw [if_neg (by omega), if_neg hi]
  have hfr : ∀ i : Nat, i < s.nodes.length + 1 → 0 ≤ frm s.nodes.length t i ∧ frm s.nodes.length t i < (s.nodes.length : Int) := fun i hi => by
    unfold frm
    split <;> omega
  have hrow : ∀ m, ((List.range m).flatMap fun i => (List.range (s.nodes.length + 1)).map fun j => nextV s (frm s.nodes.length t i) (frm s.nodes.length t j)).length = m * (s.nodes.length + 1) := fun m => by
    have := flatMap_len (List.range m) (fun i => (List.range (s.nodes.length + 1)).map fun j => nextV s (frm s.nodes.length t i) (frm s.nodes.length t j)) (s.nodes.length + 1) (fun x _ => by simp)
    simpa using this
  have hnod : (List.range (s.nodes.length + 1)).map (fun i => s.nodes.getD (frm s.nodes.length t i).toNat zN) = (splitF s t).nodes := by
    rw [List.range_succ, List.map_append]
    show _ = s.nodes ++ [s.nodes.getD t.toNat zN]
    congr 1
    · apply List.ext_getElem
      · simp
      · intro i h1 h2
        simp only [List.getElem_map, List.getElem_range]
        unfold frm
        rw [if_neg (by omega)]
        simp [List.getD, h2]
    · simp [frm]
  unfold impl_divided
  rw [addI_eq (by omega) (by omega)]
  refine Tot.eq (Tot.bind (P := (· = ((splitF s t).nodes, (splitF s t).next))) (Tot.loop (fun i q => q = ((i : Int), (List.range i).map (fun i => s.nodes.getD (frm s.nodes.length t i).toNat zN), (List.range i).flatMap fun i => (List.range (s.nodes.length + 1)).map fun j => nextV s (frm s.nodes.length t i) (frm s.nodes.length t j))) (s.nodes.length + 1) rfl fun i q hI hi => ?_) fun r hr => by subst hr; exact Tot.ret rfl)
  subst hI
  by_cases hlt : i < s.nodes.length + 1
  · have hf := hfr i hlt
    have hmem : s.nodes.getD (frm s.nodes.length t i).toNat zN ∈ s.nodes := by
      have : (frm s.nodes.length t i).toNat < s.nodes.length := by omega
      simp [List.getD, this]
    have hi11 : i * (s.nodes.length + 1) ≤ 11 * 11 := Nat.mul_le_mul (by omega) (by omega)
    simp only [ltI, cond_dec, hsame, Option.bind_some, at_in' hf zN, ownNode _ (h.e _ hmem), List.length_map, List.length_range, List.length_singleton]
    rw [if_pos (by omega), room_small (by omega) (by omega), Option.bind_some]
    refine Tot.bind (P := (· = (List.range (i + 1)).flatMap fun i => (List.range (s.nodes.length + 1)).map fun j => nextV s (frm s.nodes.length t i) (frm s.nodes.length t j))) (Tot.loop (fun j q => q = ((j : Int), ((List.range i).flatMap fun i => (List.range (s.nodes.length + 1)).map fun j => nextV s (frm s.nodes.length t i) (frm s.nodes.length t j)) ++ (List.range j).map fun j => nextV s (frm s.nodes.length t i) (frm s.nodes.length t j))) (s.nodes.length + 1) (by simp) fun j q hJ hj => ?_) fun r hr => ?_
    · subst hJ
      by_cases hjl : j < s.nodes.length + 1
      · simp only [hsame, Option.bind_some, impl_nextOf s _ _ h.n, List.length_append, hrow, List.length_map, List.length_range, List.length_singleton]
        rw [if_pos (by omega), room_small (by omega) (by omega), Option.bind_some, addI_eq (by omega) (by omega)]
        exact Tot.ret ⟨hjl, by simp only [List.range_succ, List.map_append, List.map_cons, List.map_nil, List.append_assoc]; rfl⟩
      · simp only
        rw [if_neg (by omega)]
        have : j = s.nodes.length + 1 := by omega
        subst this
        exact Tot.ret (by rw [List.range_succ (n := i), List.flatMap_append]; simp)
    · subst hr
      rw [addI_eq (by omega) (by omega)]
      exact Tot.ret ⟨hlt, by rw [List.range_succ (n := i), List.map_append]; rfl⟩
  · simp only [ltI, cond_dec]
    rw [if_neg (by omega)]
    have : i = s.nodes.length + 1 := by omega
    subst this
    exact Tot.ret (by rw [hnod]; rfl)
end Go.Ev

namespace Go.Ev
open Wf (wf)
open Sm (sm lg)
theorem okSet_of {set : List TStructure} (h : sm set) : okSet set := ⟨by have := h.1; unfold small; omega, fun t ht => by have := (h.2 t ht).1.1; unfold small; omega⟩
theorem lg_tiny {h : THeap} (ht : tiny h) : lg h := ⟨lg_ints (by have := ht.1; omega), lg_ints (by have := ht.2; omega)⟩
theorem lg_shL (v c : Int) : lg (shL v c) := ⟨by have := shL_len v c; omega, fun h hh => lg_tiny (shL_tiny v c h hh)⟩
theorem cntI_len (xs : List Int) : cntF_markIntS xs = xs.length := by
  unfold cntF_markIntS totC
  induction xs with
  | nil => rfl
  | cons x xs ih =>
    rw [List.map_cons, List.sum_cons, ih, List.length_cons]
    show 1 + xs.length = xs.length + 1
    omega
theorem cnt_tiny (hs : List THeap) (ht : ∀ h ∈ hs, tiny h) : cntF_markHeapS hs ≤ hs.length * 10 := by
  refine totC_le _ 10 hs fun h hh => ?_
  have := ht h hh
  unfold cntE_markHeapS
  rw [cntI_len, cntI_len]
  unfold tiny at this
  omega
theorem held_heaps {hs : List THeap} (hl : lg hs) (ht : ∀ h ∈ hs, tiny h) (hn : hs.length ≤ 1600000) : laws_heldHeapS (mkF_markHeapS hs 1).1 1 = some (mkF_markHeapS hs 1).2 ∧ (0 : Int) ≤ (mkF_markHeapS hs 1).2 := by
  have hc := cnt_tiny hs ht
  have hb : (1 : Int) + cntF_markHeapS hs ≤ maxMark := by unfold maxMark; omega
  exact ⟨heldHeapS_ok hl (by omega) hb, by rw [markHeapS_snd hs 1 (by omega) hb]; omega⟩
theorem cntI_len' (xs : List Int) : cntF_markIntS xs = xs.length := by
  unfold cntF_markIntS totC
  induction xs with
  | nil => rfl
  | cons x xs ih =>
    rw [List.map_cons, List.sum_cons, ih, List.length_cons]
    show 1 + xs.length = xs.length + 1
    omega
theorem cnt_nodes {xs : List TNode} (h : sm xs) : cntF_markNodeS xs ≤ 2200000000000 := by
  have := totC_le cntE_markNodeS 2097154 xs fun x hx => by
    have hx := h.2 x hx
    unfold cntE_markNodeS
    rw [cntI_len', cntI_len']
    have := hx.1.1
    have := hx.2.1
    omega
  refine Nat.le_trans this (Nat.le_trans (Nat.mul_le_mul_right _ h.1) (by decide))
theorem cnt_str {s : TStructure} (h : sm s) : cntF_markNodeS s.nodes + cntF_markIntS s.next ≤ 2200001048576 := by
  have h1 := cnt_nodes h.1
  rw [cntI_len']
  have := h.2.1
  omega
end Go.Ev
