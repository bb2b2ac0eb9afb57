import Derived.Test.YtdjpaoikfigfhaaEvA10
import Derived.Test.YtdjpaoikfigfhaaEvA8
import Derived.Test.YtdjpaoikfigfhaaEvA9
import Derived.Test.YtdjpaoikfigfhaaProg
import Derived.KernelRfl
import Derived.WalkKit
import Derived.Deep.LoopGhost
import Derived.Lib.Walk
import Derived.Lib.SliceRun
import Derived.Laws.OwnMore
import Derived.Lib.AppendZerosOnto
set_option linter.unusedSimpArgs false
set_option linter.unusedVariables false
set_option linter.unnecessarySimpa false
namespace Go.Ev
def firstR {ρ υ : Type} (o : Option ρ) (u : υ) : ρ ⊕ υ := match o with | some r => .inl r | none => .inr u
theorem Tot.first {ρ υ : Type} {step : Int → Option (Int ⊕ (ρ ⊕ υ))} {Q : ρ ⊕ υ → Prop} (n : Nat) (F : Nat → Option ρ) (u : υ)
    (h : ∀ i : Nat, i < n → Tot (step i) (· = (match F i with | none => .inl ((i : Int) + 1) | some r => .inr (.inl r)))) (he : Tot (step n) (· = .inr (.inr u)))
    (hQ : Q (firstR ((List.range n).findSome? F) u)) : Tot (iter step 0) Q := by
  refine Tot.loop (fun i s => s = (i : Int) ∧ ∀ j, j < i → F j = none) n ⟨rfl, fun j hj => absurd hj (Nat.not_lt_zero _)⟩ fun i s hI hi => ?_
  obtain ⟨rfl, hI⟩ := hI
  by_cases hlt : i < n
  · refine (h i hlt).mono fun o ho => ?_
    subst ho
    cases hF : F i with
    | none =>
      refine ⟨hlt, rfl, fun j hj => ?_⟩
      by_cases hji : j = i
      · subst hji; exact hF
      · exact hI j (by omega)
    | some r =>
      have : (List.range n).findSome? F = some r := by
        rw [List.findSome?_eq_some_iff]
        refine ⟨List.range i, i, (List.range' (i + 1) (n - i - 1)), ?_, hF, fun j hj => hI j (List.mem_range.1 hj)⟩
        rw [List.range_eq_range', List.range_eq_range', ← List.range'_succ, show n - i - 1 + 1 = n - i by omega]
        have := @List.range'_append 0 i (n - i) 1
        simp only [Nat.one_mul, Nat.zero_add] at this
        rw [this]
        congr 1
        omega
      rw [this] at hQ
      exact hQ
  · have : i = n := by omega
    subst this
    refine he.mono fun o ho => ?_
    subst ho
    have : (List.range i).findSome? F = none := by
      rw [List.findSome?_eq_none_iff]
      exact fun j hj => hI j (List.mem_range.1 hj)
    rw [this] at hQ
    exact hQ
theorem findSome_all {ρ : Type} (p : Nat → Bool) (r : ρ) : ∀ xs : List Nat, xs.findSome? (fun i => if p i then none else some r) = if xs.all p then none else some r
  | [] => rfl
  | x :: xs => by
    rw [List.findSome?_cons, findSome_all p r xs]
    cases h : p x <;> simp [h]
theorem Tot.all {ρ υ : Type} {step : Int → Option (Int ⊕ (ρ ⊕ υ))} {Q : ρ ⊕ υ → Prop} (n : Nat) (p : Nat → Bool) (r : ρ) (u : υ)
    (h : ∀ i : Nat, i < n → Tot (step i) (· = (if p i then .inl ((i : Int) + 1) else .inr (.inl r)))) (he : Tot (step n) (· = .inr (.inr u)))
    (hQ : Q (if (List.range n).all p then .inr u else .inl r)) : Tot (iter step 0) Q := by
  refine Tot.first n (fun i => if p i then none else some r) u (fun i hi => ?_) he ?_
  · refine (h i hi).mono fun o ho => ?_
    rw [ho]
    cases p i <;> rfl
  · rw [findSome_all]
    cases h : (List.range n).all p <;> simpa [h, firstR] using hQ

def wB (a b : Int) : Bool := decide (0 ≤ a ∧ a ≤ 2) && (decide (0 ≤ b ∧ b ≤ 2) && (decide (b = 1) || decide (a = b)))
theorem spec_isWithin (a b : Int) : spec_IsWithin a b = some (wB a b) := by
  unfold spec_IsWithin spec_IsTruth wB
  simp only [l1In_eq, Option.bind_some, cond_dec, eqI]
  by_cases h1 : 0 ≤ a ∧ a ≤ 2
  · rw [if_pos h1]
    by_cases h2 : 0 ≤ b ∧ b ≤ 2
    · rw [if_pos h2]
      by_cases h3 : b = 1
      · simp [h1, h3]
      · simp [h1, h2, h3]
    · rw [if_neg h2]; simp [h2]
  · rw [if_neg h1]; simp [h1]
theorem impl_isWithin (a b : Int) : impl_IsWithin a b = some (wB a b) := by rw [isWithin_eq, spec_isWithin]
def listW (a b : List Int) : Bool := decide (a.length = b.length) && (List.range a.length).all fun i => wB (a.getD i 0) (b.getD i 0)
theorem getD_at {α : Type} {xs : List α} {i : Nat} (h : i < xs.length) (d : α) : at? xs (i : Int) = some (xs.getD i d) := by
  rw [at_nat, List.getElem?_eq_getElem h]; simp [List.getD, h]
theorem spec_lists (a b : List Int) (ha : small a.length) : spec_l16Lists a b = some (listW a b) := by
  unfold small at ha
  unfold spec_l16Lists listW
  simp only [neI, cond_ndec]
  by_cases h : a.length = b.length
  · rw [if_pos (by omega)]
    simp only [h, decide_true, Bool.true_and]
    refine Tot.eq (Tot.bind (P := (· = if (List.range a.length).all (fun i => wB (a.getD i 0) (b.getD i 0)) then .inr () else .inl ())) (Tot.all a.length (fun i => wB (a.getD i 0) (b.getD i 0)) () () (fun i hi => ?_) ?_ (by simp)) fun r hr => ?_)
    · rw [← h]
      simp only [ltI, cond_dec, getD_at hi 0, getD_at (show i < b.length by omega) 0, Option.bind_some, spec_isWithin]
      rw [if_pos (by omega), addI_eq (by omega) (by omega)]
      cases wB (a.getD i 0) (b.getD i 0) <;> exact Tot.ret rfl
    · rw [← h]
      simp only [ltI, cond_dec]
      rw [if_neg (by omega)]
      exact Tot.ret rfl
    · subst hr
      rw [h]
      cases (List.range b.length).all (fun i => wB (a.getD i 0) (b.getD i 0)) <;> exact Tot.ret rfl
  · rw [if_neg (by omega)]
    simp [h]
theorem impl_equalFunc (a b : List Int) (ha : small a.length) : slices_EqualFunc_intint_int_int_ a b (fun x0 x1 => impl_IsWithin x0 x1) = some (listW a b) := by
  rw [← spec_lists a b ha, isWithin_eq]
  rfl
def zN : TNode := ⟨[], [], 0, 0⟩
def nodeW (x y : TNode) : Bool := listW x.vars y.vars && (listW x.reach y.reach && (wB x.shared y.shared && wB x.many y.many))
def okN (x : TNode) : Prop := small x.vars.length ∧ small x.reach.length
theorem spec_node (x y : TNode) (hx : okN x) : spec_l16Node x y = some (nodeW x y) := by
  unfold spec_l16Node nodeW
  rw [spec_lists _ _ hx.1, spec_lists _ _ hx.2, spec_isWithin, spec_isWithin]
  cases listW x.vars y.vars <;> cases listW x.reach y.reach <;> cases wB x.shared y.shared <;> rfl
theorem impl_node (x y : TNode) (hx : okN x) : impl_isWithinNode x y = some (nodeW x y) := by
  unfold impl_isWithinNode nodeW
  rw [impl_equalFunc _ _ hx.1, impl_equalFunc _ _ hx.2, impl_isWithin, impl_isWithin]
  cases listW x.vars y.vars <;> cases listW x.reach y.reach <;> cases wB x.shared y.shared <;> rfl
def nextV (s : TStructure) (i j : Int) : Int :=
  if 0 ≤ i ∧ i ≤ (s.nodes.length : Int) - 1 then if 0 ≤ j ∧ j ≤ (s.nodes.length : Int) - 1 then if s.next.length = s.nodes.length * s.nodes.length then s.next.getD (i * s.nodes.length + j).toNat 0 else 1 else 1 else 1
theorem sq_small {n : Nat} (h : small n) : n * n ≤ 16000000000000 := Nat.le_trans (Nat.mul_le_mul h h) (by decide)
theorem place_in {n : Nat} {i j : Int} (hi : 0 ≤ i ∧ i ≤ (n : Int) - 1) (hj : 0 ≤ j ∧ j ≤ (n : Int) - 1) : 0 ≤ i * n ∧ i * n + j < ((n * n : Nat) : Int) := by
  have h1 : i * n ≤ ((n : Int) - 1) * n := Int.mul_le_mul_of_nonneg_right hi.2 (by omega)
  have h2 : 0 ≤ i * (n : Int) := Int.mul_nonneg hi.1 (by omega)
  rw [Int.sub_mul, Int.one_mul] at h1
  have h3 : ((n * n : Nat) : Int) = (n : Int) * n := by simp
  omega
theorem spec_nextOf (s : TStructure) (i j : Int) (hs : small s.nodes.length) : spec_NextOf s i j = some (nextV s i j) := by
  unfold spec_NextOf nextV
  have hq := sq_small hs
  have hs' := hs
  unfold small at hs'
  rw [l1In_eq, l1In_eq, subI_eq (by omega) (by omega)]
  have h3 : ((s.nodes.length * s.nodes.length : Nat) : Int) = (s.nodes.length : Int) * s.nodes.length := by simp
  rw [mulI_eq (by omega) (by omega)]
  simp only [Option.bind_some, cond_dec, neI, cond_ndec]
  by_cases hi : 0 ≤ i ∧ i ≤ (s.nodes.length : Int) - 1
  · rw [if_pos hi, if_pos hi]
    by_cases hj : 0 ≤ j ∧ j ≤ (s.nodes.length : Int) - 1
    · rw [if_pos hj, if_pos hj]
      by_cases hn : s.next.length = s.nodes.length * s.nodes.length
      · obtain ⟨p1, p2⟩ := place_in hi hj
        rw [if_pos (by omega), if_pos hn, mulI_eq (by omega) (by omega), addI_eq (by omega) (by omega), at_in (by omega)]
        rfl
      · rw [if_neg (by omega), if_neg hn]
    · rw [if_neg hj, if_neg hj]
  · rw [if_neg hi, if_neg hi]
theorem impl_nextOf (s : TStructure) (i j : Int) (hs : small s.nodes.length) : impl_NextOf s i j = some (nextV s i j) := by
  rw [← spec_nextOf s i j hs]
  unfold impl_NextOf spec_NextOf impl_Structure_isNode
  simp only [within_eq, l1In_eq, Option.bind_some]
def roundB (s t : TStructure) (to : List Int) (j : Nat) : Bool :=
  wB (nextV s ((to.length : Int) - 1) j) (nextV t (lastI to) (to.getD j 0)) && (wB (nextV s j ((to.length : Int) - 1)) (nextV t (to.getD j 0) (lastI to)) && !(decide (j + 1 < to.length) && (decide (to.getD j 0 = lastI to) && !decide ((t.nodes.getD (lastI to).toNat zN).many = 1))))
def fitB (s t : TStructure) (to : List Int) : Bool := nodeW (s.nodes.getD (to.length - 1) zN) (t.nodes.getD (lastI to).toNat zN) && (List.range to.length).all (roundB s t to)
def okS (s : TStructure) : Prop := small s.nodes.length ∧ ∀ n ∈ s.nodes, okN n
theorem at_in' {α : Type} {xs : List α} {c : Int} (h : 0 ≤ c ∧ c < (xs.length : Int)) (d : α) : at? xs c = some (xs.getD c.toNat d) := by
  unfold at?
  rw [if_pos h.1]
  have : c.toNat < xs.length := by omega
  simp [List.getD, List.getElem?_eq_getElem this]
theorem okS_at {s : TStructure} (h : okS s) (i : Nat) : okN (s.nodes.getD i zN) := by
  by_cases hi : i < s.nodes.length
  · have := h.2 _ (List.getElem_mem hi)
    simpa [List.getD, List.getElem?_eq_getElem hi] using this
  · have : s.nodes.getD i zN = zN := by simp [List.getD, List.getElem?_eq_none (Nat.le_of_not_lt hi)]
    rw [this]
    unfold okN small zN
    simp
theorem spec_fits (s t : TStructure) (to : List Int) (hs : okS s) (ht : small t.nodes.length) (h0 : to ≠ []) (hl : to.length ≤ s.nodes.length) (hr : ∀ x ∈ to, 0 ≤ x ∧ x < (t.nodes.length : Int)) : spec_l16Fits s t to = some (fitB s t to) := by
  unfold spec_l16Fits fitB
  have hpos : 0 < to.length := List.length_pos_iff.2 h0
  have hs1 := hs.1
  have hsl : small to.length := Nat.le_trans hl hs1
  have hsl' := hsl
  unfold small at hsl' ht hs1
  have hx := hr _ (lastI_mem h0)
  rw [lastI_at h0 hsl, subI_eq (by omega) (by omega)]
  simp only [Option.bind_some, at_in' hx zN]
  have h1 : at? s.nodes ((to.length : Int) - 1) = some (s.nodes.getD (to.length - 1) zN) := by
    rw [at_in' (by omega) zN, show ((to.length : Int) - 1).toNat = to.length - 1 by omega]
  simp only [h1, Option.bind_some, spec_node _ _ (okS_at hs _)]
  cases hn : nodeW (s.nodes.getD (to.length - 1) zN) (t.nodes.getD (lastI to).toNat zN) with
  | false => rfl
  | true =>
    simp only [cond_true, Bool.true_and]
    refine Tot.eq (Tot.bind (P := (· = if (List.range to.length).all (roundB s t to) then .inr () else .inl ())) (Tot.all to.length (roundB s t to) () () (fun i hi => ?_) ?_ rfl) fun r hr => ?_)
    · simp only [leI, ltI, eqI, neI, cond_dec, cond_ndec, getD_at hi 0, Option.bind_some, spec_isWithin, spec_nextOf s _ _ hs.1, spec_nextOf t _ _ ht]
      rw [if_pos (by omega), addI_eq (by omega) (by omega)]
      unfold roundB
      cases wB (nextV s ((to.length : Int) - 1) i) (nextV t (lastI to) (to.getD i 0)) with
      | false => exact Tot.ret rfl
      | true =>
        cases wB (nextV s i ((to.length : Int) - 1)) (nextV t (to.getD i 0) (lastI to)) with
        | false => exact Tot.ret rfl
        | true =>
          simp only [cond_true, Bool.true_and]
          by_cases h2 : i + 1 < to.length
          · rw [if_pos (by omega)]
            by_cases h3 : to.getD i 0 = lastI to
            · rw [if_pos h3]
              by_cases h4 : (t.nodes.getD (lastI to).toNat zN).many = 1
              · rw [if_pos h4]; exact Tot.ret (by rw [decide_eq_true h2, decide_eq_true h3, decide_eq_true h4]; rfl)
              · rw [if_neg h4]; exact Tot.ret (by rw [decide_eq_true h2, decide_eq_true h3, decide_eq_false h4]; rfl)
            · rw [if_neg h3]; exact Tot.ret (by rw [decide_eq_true h2, decide_eq_false h3]; rfl)
          · rw [if_neg (by omega)]; exact Tot.ret (by rw [decide_eq_false h2]; rfl)
    · simp only [leI, cond_dec]
      rw [if_neg (by omega)]
      exact Tot.ret rfl
    · subst hr
      cases (List.range to.length).all (roundB s t to) <;> exact Tot.ret rfl
theorem impl_fits (s t : TStructure) (to : List Int) (hs : okS s) (ht : small t.nodes.length) (h0 : to ≠ []) (hl : to.length ≤ s.nodes.length) (hr : ∀ x ∈ to, 0 ≤ x ∧ x < (t.nodes.length : Int)) : impl_fitsSoFar s t to = some (fitB s t to) := by
  unfold impl_fitsSoFar fitB impl_Structure_isNode
  have hpos : 0 < to.length := List.length_pos_iff.2 h0
  have hs1 := hs.1
  have hsl : small to.length := Nat.le_trans hl hs1
  have hsl' := hsl
  unfold small at hsl' ht hs1
  have hx := hr _ (lastI_mem h0)
  rw [lastI_at h0 hsl, subI_eq (a := (to.length : Int)) (by omega) (by omega), subI_eq (a := (t.nodes.length : Int)) (by omega) (by omega)]
  simp only [Option.bind_some, within_eq, at_in' hx zN, cond_dec]
  rw [if_pos (by omega)]
  have h1 : at? s.nodes ((to.length : Int) - 1) = some (s.nodes.getD (to.length - 1) zN) := by
    rw [at_in' (by omega) zN, show ((to.length : Int) - 1).toNat = to.length - 1 by omega]
  have hA : at? to ((to.length : Int) - 1) = some (lastI to) := by
    have := lastI_at h0 hsl
    rwa [subI_eq (by omega) (by omega)] at this
  simp only [h1, hA, Option.bind_some, impl_node _ _ (okS_at hs _)]
  cases hn : nodeW (s.nodes.getD (to.length - 1) zN) (t.nodes.getD (lastI to).toNat zN) with
  | false => rfl
  | true =>
    simp only [cond_true, Bool.true_and]
    refine Tot.eq (Tot.bind (P := (· = if (List.range to.length).all (roundB s t to) then .inr () else .inl ())) (Tot.all to.length (roundB s t to) () () (fun i hi => ?_) ?_ rfl) fun r hr => ?_)
    · simp only [leI, ltI, eqI, neI, cond_dec, cond_ndec, getD_at hi 0, Option.bind_some, impl_isWithin, impl_nextOf s _ _ hs.1, impl_nextOf t _ _ ht]
      rw [if_pos (by omega), addI_eq (by omega) (by omega)]
      unfold roundB
      by_cases h2 : i + 1 < to.length
      · rw [if_pos (by omega), decide_eq_true h2]
        by_cases h3 : to.getD i 0 = lastI to
        · rw [if_pos h3, decide_eq_true h3, h3]
          simp only [at_in' hx zN, Option.bind_some]
          by_cases h4 : (t.nodes.getD (lastI to).toNat zN).many = 1
          · rw [if_pos h4, decide_eq_true h4]
            cases wB (nextV s ((to.length : Int) - 1) i) (nextV t (lastI to) (lastI to)) <;> cases wB (nextV s i ((to.length : Int) - 1)) (nextV t (lastI to) (lastI to)) <;> exact Tot.ret rfl
          · rw [if_neg h4, decide_eq_false h4]
            cases wB (nextV s ((to.length : Int) - 1) i) (nextV t (lastI to) (lastI to)) <;> cases wB (nextV s i ((to.length : Int) - 1)) (nextV t (lastI to) (lastI to)) <;> exact Tot.ret rfl
        · rw [if_neg h3, decide_eq_false h3]
          cases wB (nextV s ((to.length : Int) - 1) i) (nextV t (lastI to) (to.getD i 0)) <;> cases wB (nextV s i ((to.length : Int) - 1)) (nextV t (to.getD i 0) (lastI to)) <;> exact Tot.ret rfl
      · rw [if_neg (by omega), decide_eq_false h2]
        cases wB (nextV s ((to.length : Int) - 1) i) (nextV t (lastI to) (to.getD i 0)) <;> cases wB (nextV s i ((to.length : Int) - 1)) (nextV t (to.getD i 0) (lastI to)) <;> exact Tot.ret rfl
    · simp only [ltI, cond_dec]
      rw [if_neg (by omega)]
      exact Tot.ret rfl
    · subst hr
      cases (List.range to.length).all (roundB s t to) <;> exact Tot.ret rfl
end Go.Ev


namespace Go.Ev
def ontoB (t : TStructure) (to : List Int) : Bool := (List.range t.nodes.length).all fun j : Nat => decide ((j : Int) ∈ to)
def rngT (t : TStructure) (to : List Int) : Prop := ∀ x ∈ to, 0 ≤ x ∧ x < (t.nodes.length : Int)
theorem impl_onto (t : TStructure) (to : List Int) (ht : small t.nodes.length) (hl : small to.length) : impl_isOnto t to = some (ontoB t to) := by
  unfold small at ht
  unfold impl_isOnto
  refine Tot.eq (Tot.bind (P := (· = if ontoB t to then .inr () else .inl ())) (Tot.all t.nodes.length (fun j : Nat => decide ((j : Int) ∈ to)) () () (fun i hi => ?_) ?_ rfl) fun r hr => ?_)
  · simp only [ltI, cond_dec, contains_int to _ hl, Option.bind_some]
    rw [if_pos (by omega), addI_eq (by omega) (by omega)]
    by_cases h : (i : Int) ∈ to
    · rw [if_pos h, if_pos (by simpa using h)]; exact Tot.ret rfl
    · rw [if_neg h, if_neg (by simpa using h)]; exact Tot.ret rfl
  · simp only [ltI, cond_dec]
    rw [if_neg (by omega)]
    exact Tot.ret rfl
  · subst hr
    cases ontoB t to <;> exact Tot.ret rfl
theorem slc_take (to : List Int) (i : Nat) (hi : i < to.length) (hl : small to.length) : slc to 0 (addI (i : Int) 1) = some (to.take (i + 1)) := by
  unfold small at hl
  rw [addI_eq (by omega) (by omega)]
  unfold slc
  rw [if_pos (by omega)]
  congr 1
theorem ne_take {to : List Int} {i : Nat} (hi : i < to.length) : to.take (i + 1) ≠ [] := by
  intro h
  have : (to.take (i + 1)).length = 0 := by rw [h]; rfl
  rw [List.length_take] at this
  omega
def upB (s t : TStructure) (to : List Int) (i : Nat) : Bool := decide (0 ≤ to.getD i 0 ∧ to.getD i 0 ≤ (t.nodes.length : Int) - 1) && fitB s t (to.take (i + 1))
def embB (s t : TStructure) (to : List Int) : Bool := decide (to.length = s.nodes.length) && ((List.range to.length).all (upB s t to) && ontoB t to)
theorem spec_isEmbedding (s t : TStructure) (to : List Int) (hs : okS s) (ht : small t.nodes.length) (hto : small to.length) : spec_IsEmbedding s t to = some (embB s t to) := by
  unfold spec_IsEmbedding embB
  have hs1 := hs.1
  have ht' := ht
  have hto' := hto
  unfold small at hs1 ht' hto'
  simp only [neI, cond_ndec]
  by_cases hl : to.length = s.nodes.length
  · rw [if_pos (by omega), decide_eq_true hl, Bool.true_and]
    have key : Tot (iter (ρ := (Unit) ⊕ (Unit)) (fun s_2 : Int =>
        cond (ltI s_2 (to.length : Int))
          ((at? to s_2).bind fun e_15 =>
            (spec_l1In e_15 0 (subI (t.nodes.length : Int) 1)).bind fun y_20 =>
              cond y_20
                ((slc to 0 (addI s_2 1)).bind fun z_24 =>
                  (spec_l16Fits s t z_24).bind fun y_31 =>
                    cond y_31
                      (some (.inl (addI s_2 1)))
                      (some (.inr (.inl ()))))
                (some (.inr (.inl ()))))
          (some (.inr (.inr ())))) 0) (fun r => (r = .inr () ∧ (List.range to.length).all (upB s t to) = true) ∨ (r = .inl () ∧ (List.range to.length).all (upB s t to) = false)) := by
      refine Tot.loop (fun i q => q = (i : Int) ∧ ∀ j, j < i → upB s t to j = true) to.length ⟨rfl, fun j hj => absurd hj (Nat.not_lt_zero _)⟩ fun i q hI hi => ?_
      obtain ⟨rfl, hI⟩ := hI
      simp only [ltI, cond_dec]
      by_cases hlt : i < to.length
      · rw [if_pos (by omega)]
        simp only [getD_at hlt 0, Option.bind_some, l1In_eq, subI_eq (a := (t.nodes.length : Int)) (b := 1) (by omega) (by omega), cond_dec]
        have hno : upB s t to i = false → (List.range to.length).all (upB s t to) = false := fun hu => List.all_eq_false.2 ⟨i, List.mem_range.2 hlt, by simp [hu]⟩
        by_cases hr : 0 ≤ to.getD i 0 ∧ to.getD i 0 ≤ (t.nodes.length : Int) - 1
        · rw [if_pos hr, slc_take to i hlt hto, Option.bind_some]
          have hall : ∀ x ∈ to.take (i + 1), 0 ≤ x ∧ x < (t.nodes.length : Int) := by
            intro x hx
            obtain ⟨j, hj, rfl⟩ := List.mem_iff_getElem.1 hx
            simp only [List.length_take] at hj
            rw [List.getElem_take]
            by_cases hji : j = i
            · subst hji
              have : to.getD j 0 = to[j] := by simp [List.getD, hlt]
              omega
            · have hu := hI j (by omega)
              have : to.getD j 0 = to[j]'(by omega) := by simp [List.getD, show j < to.length by omega]
              simp only [upB, Bool.and_eq_true, decide_eq_true_eq] at hu
              omega
          rw [spec_fits s t _ hs ht (ne_take hlt) (by simp; omega) hall, Option.bind_some, addI_eq (by omega) (by omega)]
          have hu : upB s t to i = fitB s t (to.take (i + 1)) := by unfold upB; rw [decide_eq_true hr, Bool.true_and]
          cases hf : fitB s t (to.take (i + 1)) with
          | true =>
            refine Tot.ret ⟨hlt, by simp, fun j hj => ?_⟩
            by_cases hji : j = i
            · subst hji; rw [hu, hf]
            · exact hI j (by omega)
          | false => exact Tot.ret (.inr ⟨rfl, hno (hu.trans hf)⟩)
        · rw [if_neg hr]
          refine Tot.ret (.inr ⟨rfl, hno ?_⟩)
          unfold upB
          rw [decide_eq_false hr, Bool.false_and]
      · rw [if_neg (by omega)]
        refine Tot.ret (.inl ⟨rfl, List.all_eq_true.2 fun j hj => hI j (by have := List.mem_range.1 hj; omega)⟩)
    obtain ⟨r, hr, h⟩ := key
    rw [hr, Option.bind_some]
    rcases h with ⟨rfl, h⟩ | ⟨rfl, h⟩
    · rw [h, Bool.true_and]
      simp only [Sum.elim_inr]
      refine Tot.eq (Tot.bind (P := (· = if ontoB t to then .inr () else .inl false)) (Tot.all t.nodes.length (fun j : Nat => decide ((j : Int) ∈ to)) false () (fun i hi => ?_) ?_ rfl) fun r hr => ?_)
      · simp only [ltI, cond_dec, l7Has to _ hto, Option.bind_some]
        rw [if_pos (by omega), addI_eq (by omega) (by omega)]
        by_cases h : (i : Int) ∈ to
        · rw [if_pos h, if_pos (by simpa using h)]; exact Tot.ret rfl
        · rw [if_neg h, if_neg (by simpa using h)]; exact Tot.ret rfl
      · simp only [ltI, cond_dec]
        rw [if_neg (by omega)]
        exact Tot.ret rfl
      · subst hr
        cases ontoB t to <;> exact Tot.ret rfl
    · rw [h]; rfl
  · rw [if_neg (by omega), decide_eq_false hl]
    rfl

def pre (s t : TStructure) (to : List Int) : Prop := to.length ≤ s.nodes.length ∧ rngT t to ∧ ∀ i, i < to.length → fitB s t (to.take (i + 1)) = true
theorem pre_emb {s t : TStructure} {to : List Int} (h : pre s t to) (hl : to.length = s.nodes.length) : embB s t to = ontoB t to := by
  unfold embB
  rw [decide_eq_true hl, Bool.true_and]
  have : (List.range to.length).all (upB s t to) = true := List.all_eq_true.2 fun i hi => by
    have hi := List.mem_range.1 hi
    unfold upB
    have hg : to.getD i 0 = to[i] := by simp [List.getD, hi]
    have := h.2.1 _ (List.getElem_mem hi)
    rw [h.2.2 i hi, decide_eq_true (by omega), Bool.true_and]
  rw [this, Bool.true_and]
theorem pre_push {s t : TStructure} {to : List Int} (h : pre s t to) {j : Nat} (hj : j < t.nodes.length) (hl : to.length < s.nodes.length) (hf : fitB s t (to ++ [(j : Int)]) = true) : pre s t (to ++ [(j : Int)]) := by
  refine ⟨by simp; omega, fun x hx => ?_, fun i hi => ?_⟩
  · rcases List.mem_append.1 hx with hx | hx
    · exact h.2.1 x hx
    · simp at hx; omega
  · simp only [List.length_append, List.length_singleton] at hi
    by_cases he : i = to.length
    · subst he
      rw [List.take_of_length_le (by simp)]
      exact hf
    · rw [List.take_append_of_le_length (by omega)]
      exact h.2.2 i (by omega)
def tryJ (s t : TStructure) (F : List Int → List Int × Bool) (to : List Int) (j : Nat) : Option (List Int × Bool) :=
  if fitB s t (to ++ [(j : Int)]) then (if (F (to ++ [(j : Int)])).2 then some ((F (to ++ [(j : Int)])).1, true) else none) else none
def findF (s t : TStructure) : Nat → List Int → List Int × Bool
  | 0, to => (to, ontoB t to)
  | k + 1, to => (match (List.range t.nodes.length).findSome? (tryJ s t (findF s t k) to) with | some r => r | none => ([], false))
theorem findF_len (s t : TStructure) : ∀ (k : Nat) (to : List Int), (findF s t k to).1.length ≤ to.length + k
  | 0, to => Nat.le_refl _
  | k + 1, to => by
    unfold findF
    split
    · rename_i r hr
      obtain ⟨j, _, hj⟩ := List.exists_of_findSome?_eq_some hr
      unfold tryJ at hj
      split at hj
      · split at hj
        · cases hj
          have := findF_len s t k (to ++ [(j : Int)])
          simp only [List.length_append, List.length_singleton] at this
          simp only
          omega
        · cases hj
      · cases hj
    · simp
theorem spec_find (s t : TStructure) (hs : okS s) (ht : small t.nodes.length) : ∀ (k : Nat) (to : List Int), to.length + k = s.nodes.length → pre s t to → fixN R_spec_l16Find (k + 1) (s, t, to, ()) = some (findF s t k to)
  | 0, to, hk, hp => by
    rw [show fixN R_spec_l16Find (0 + 1) (s, t, to, ()) = B_spec_l16Find (fun a b c => fixN R_spec_l16Find 0 (a, b, c, ())) s t to from rfl]
    have hs1 := hs.1
    unfold B_spec_l16Find
    simp only [eqI, cond_dec]
    rw [if_pos (by omega), spec_isEmbedding s t to hs ht (by unfold small at *; omega), Option.bind_some, pre_emb hp (by omega)]
    rfl
  | k + 1, to, hk, hp => by
    rw [show fixN R_spec_l16Find (k + 1 + 1) (s, t, to, ()) = B_spec_l16Find (fun a b c => fixN R_spec_l16Find (k + 1) (a, b, c, ())) s t to from rfl]
    have hs1 := hs.1
    have ht' := ht
    unfold small at hs1 ht'
    unfold B_spec_l16Find
    simp only [eqI, cond_dec]
    rw [if_neg (by omega)]
    refine Tot.eq (Tot.bind (P := (· = firstR ((List.range t.nodes.length).findSome? (tryJ s t (findF s t k) to)) ())) (Tot.first t.nodes.length (tryJ s t (findF s t k) to) () (fun i hi => ?_) ?_ rfl) fun r hr => ?_)
    · simp only [ltI, cond_dec, List.length_nil, Nat.zero_add, List.length_singleton]
      rw [if_pos (by omega), room_small (by omega) (by omega), Option.bind_some, room_small (by omega) (by omega), Option.bind_some, addI_eq (by omega) (by omega),
        spec_fits s t _ hs ht (by simp) (by simp; omega) (fun x hx => by
          rcases List.mem_append.1 hx with hx | hx
          · exact hp.2.1 x hx
          · simp at hx; omega), Option.bind_some]
      unfold tryJ
      cases hf : fitB s t (to ++ [(i : Int)]) with
      | false => exact Tot.ret rfl
      | true =>
        rw [cond_true, spec_find s t hs ht k _ (by simp; omega) (pre_push hp hi (by omega) hf), Option.bind_some]
        cases hb : (findF s t k (to ++ [(i : Int)])).2 <;> exact Tot.ret (by simp [hb])
    · simp only [ltI, cond_dec]
      rw [if_neg (by omega)]
      exact Tot.ret rfl
    · subst hr
      unfold findF
      cases (List.range t.nodes.length).findSome? (tryJ s t (findF s t k) to) <;> exact Tot.ret rfl
theorem impl_find (s t : TStructure) (hs : okS s) (ht : small t.nodes.length) : ∀ (k : Nat) (to : List Int), to.length + k = s.nodes.length → pre s t to → fixN R_impl_FindEmbedding_1 (k + 1) (to, s, t, ()) = some (findF s t k to)
  | 0, to, hk, hp => by
    rw [show fixN R_impl_FindEmbedding_1 (0 + 1) (to, s, t, ()) = B_impl_FindEmbedding_1 (fun a b c => fixN R_impl_FindEmbedding_1 0 (a, b, c, ())) to s t from rfl]
    have hs1 := hs.1
    unfold B_impl_FindEmbedding_1
    simp only [eqI, cond_dec]
    rw [if_pos (by omega), impl_onto t to ht (by unfold small at *; omega), Option.bind_some]
    rfl
  | k + 1, to, hk, hp => by
    rw [show fixN R_impl_FindEmbedding_1 (k + 1 + 1) (to, s, t, ()) = B_impl_FindEmbedding_1 (fun a b c => fixN R_impl_FindEmbedding_1 (k + 1) (a, b, c, ())) to s t from rfl]
    have hs1 := hs.1
    have ht' := ht
    unfold small at hs1 ht'
    unfold B_impl_FindEmbedding_1
    simp only [eqI, cond_dec]
    rw [if_neg (by omega)]
    refine Tot.eq (Tot.bind (P := (· = firstR ((List.range t.nodes.length).findSome? (tryJ s t (findF s t k) to)) ())) (Tot.first t.nodes.length (tryJ s t (findF s t k) to) () (fun i hi => ?_) ?_ rfl) fun r hr => ?_)
    · simp only [ltI, cond_dec, clone_int to (by unfold small; omega), Option.bind_some, List.length_singleton]
      rw [if_pos (by omega), room_small (by omega) (by omega), Option.bind_some, addI_eq (by omega) (by omega),
        impl_fits s t _ hs ht (by simp) (by simp; omega) (fun x hx => by
          rcases List.mem_append.1 hx with hx | hx
          · exact hp.2.1 x hx
          · simp at hx; omega), Option.bind_some]
      unfold tryJ
      cases hf : fitB s t (to ++ [(i : Int)]) with
      | false => exact Tot.ret rfl
      | true =>
        rw [cond_true, impl_find s t hs ht k _ (by simp; omega) (pre_push hp hi (by omega) hf), Option.bind_some]
        cases hb : (findF s t k (to ++ [(i : Int)])).2 <;> exact Tot.ret (by simp [hb])
    · simp only [ltI, cond_dec]
      rw [if_neg (by omega)]
      exact Tot.ret rfl
    · subst hr
      unfold findF
      cases (List.range t.nodes.length).findSome? (tryJ s t (findF s t k) to) <;> exact Tot.ret rfl
theorem pre_nil (s t : TStructure) : pre s t [] := ⟨Nat.zero_le _, by simp [rngT], by simp⟩
def findE' (s t : TStructure) : List Int × Bool := let r := findF s t s.nodes.length []; if r.2 then (r.1, true) else ([], false)
theorem spec_findE (s t : TStructure) (hs : okS s) (ht : small t.nodes.length) : spec_FindEmbedding s t = some (findE' s t) := by
  have h : spec_l16Find s t [] = some (findF s t s.nodes.length []) := fixO_of R_spec_l16Find_mono (spec_find s t hs ht s.nodes.length [] (by simp) (pre_nil s t))
  have hl := findF_len s t s.nodes.length []
  have hs1 := hs.1
  unfold small at hs1
  simp only [List.length_nil, Nat.zero_add] at hl
  unfold spec_FindEmbedding findE'
  rw [h, Option.bind_some]
  cases hb : (findF s t s.nodes.length []).2 with
  | false => simp [hb]
  | true => simp only [cond_true, List.length_nil, Nat.zero_add]; rw [room_small (by omega) (by omega)]; simp [hb]
theorem impl_findE (s t : TStructure) (hs : okS s) (ht : small t.nodes.length) : impl_FindEmbedding s t = some (findE' s t) := by
  have h : impl_FindEmbedding_1 [] s t = some (findF s t s.nodes.length []) := fixO_of R_impl_FindEmbedding_1_mono (impl_find s t hs ht s.nodes.length [] (by simp) (pre_nil s t))
  unfold impl_FindEmbedding findE'
  rw [h, Option.bind_some]
  cases hb : (findF s t s.nodes.length []).2 <;> simp [hb]
def isEmb (s t : TStructure) : Bool := (findE' s t).2
theorem spec_isEmbedded (s t : TStructure) (hs : okS s) (ht : small t.nodes.length) : spec_IsEmbedded s t = some (isEmb s t) := by
  unfold spec_IsEmbedded
  rw [spec_findE s t hs ht]
  rfl
theorem impl_isEmbedded (s t : TStructure) (hs : okS s) (ht : small t.nodes.length) : impl_IsEmbedded s t = some (isEmb s t) := by
  unfold impl_IsEmbedded
  rw [impl_findE s t hs ht]
  rfl

theorem strOf_ok (h : THeap) : okS (strOf h) := by
  have h1 := strOf_len h
  refine ⟨by unfold small; omega, ?_⟩
  unfold strOf
  split
  · split
    · split
      · intro n hn
        simp only [List.mem_map, List.mem_range] at hn
        obtain ⟨i, hi, rfl⟩ := hn
        unfold okN small nodeOf
        simp only [List.length_map]
        omega
      · simp
    · simp
  · simp
def okSet (set : List TStructure) : Prop := small set.length ∧ ∀ t ∈ set, small t.nodes.length
def setDesc (set : List TStructure) (h : THeap) : Bool := set.any fun t => isEmb (strOf h) t
theorem any_first {α : Type} (xs : List α) (p : α → Bool) (d : α) : (List.range xs.length).findSome? (fun i => if p (xs.getD i d) then some true else none) = if xs.any p then some true else none := by
  have : ∀ (ys : List α), (List.range ys.length).map (fun i => ys.getD i d) = ys := by
    intro ys
    apply List.ext_getElem
    · simp
    · intro i h1 h2
      simp [List.getD, h2]
  have h2 : (List.range xs.length).findSome? (fun i => if p (xs.getD i d) then some true else none) = ((List.range xs.length).map (fun i => xs.getD i d)).findSome? (fun x => if p x then some true else none) := by
    rw [List.findSome?_map]; rfl
  rw [h2, this]
  clear h2 this
  induction xs with
  | nil => rfl
  | cons x xs ih => rw [List.findSome?_cons, ih]; cases h : p x <;> simp [h]
theorem spec_setDescribes (set : List TStructure) (h : THeap) (hset : okSet set) (hh : tiny h) : spec_SetDescribes set h = some (setDesc set h) := by
  unfold spec_SetDescribes
  have hl := hset.1
  unfold small at hl
  have hD : ∀ t ∈ set, spec_Describes t h = some (isEmb (strOf h) t) := fun t ht => by
    unfold spec_Describes
    rw [spec_structureOf h (by unfold small; have := hh.1; omega) (by unfold small; have := hh.2; omega), Option.bind_some, spec_isEmbedded _ _ (strOf_ok h) (hset.2 t ht)]
    rfl
  refine Tot.eq (Tot.bind (P := (· = if setDesc set h then .inl true else .inr ())) (Tot.first set.length (fun i => if isEmb (strOf h) (set.getD i ⟨[], []⟩) then some true else none) () (fun i hi => ?_) ?_ ?_) fun r hr => ?_)
  · have hm : set.getD i ⟨[], []⟩ ∈ set := by simp [List.getD, hi]
    simp only [ltI, cond_dec, getD_at hi ⟨[], []⟩, Option.bind_some, hD _ hm]
    rw [if_pos (by omega), addI_eq (by omega) (by omega)]
    cases isEmb (strOf h) (set.getD i ⟨[], []⟩) <;> exact Tot.ret rfl
  · simp only [ltI, cond_dec]
    rw [if_neg (by omega)]
    exact Tot.ret rfl
  · rw [any_first set (fun t => isEmb (strOf h) t) ⟨[], []⟩]
    unfold setDesc
    cases set.any (fun t => isEmb (strOf h) t) <;> rfl
  · subst hr
    cases setDesc set h <;> exact Tot.ret rfl
theorem impl_setDescribes (set : List TStructure) (h : THeap) (hset : okSet set) (hh : tiny h) : impl_SetDescribes set h = some (setDesc set h) := by
  unfold impl_SetDescribes impl_Covers
  have h1 := hh.1
  have h2 := hh.2
  rw [impl_structureOf h (by unfold small; omega) (by unfold small; omega) (by unfold small; simp only [List.length_append]; omega), Option.bind_some]
  have hc := containsFunc_str set (fun x0 => impl_Covers_1 x0 (strOf h)) (fun t => isEmb (strOf h) t) (fun t ht => by
    unfold impl_Covers_1
    rw [impl_isEmbedded _ _ (strOf_ok h) (hset.2 t ht)]
    rfl) hset.1
  rw [hc]
  rfl
def shOf (v : Int) (set : List TStructure) (c : Int) : List THeap := (shL v c).filter (setDesc set)
theorem filter_take {α : Type} (p : α → Bool) (xs : List α) {i : Nat} (h : i < xs.length) : (xs.take (i + 1)).filter p = (xs.take i).filter p ++ (if p xs[i] then [xs[i]] else []) := by
  rw [take_snoc1 h, List.filter_append]
  cases hp : p xs[i] <;> simp [hp]
theorem spec_smallHeapsOf (v : Int) (set : List TStructure) (c : Int) (hset : okSet set) : spec_SmallHeapsOf v set c = some (shOf v set c) := by
  unfold spec_SmallHeapsOf
  rw [spec_SH, Option.bind_some]
  have hl := shL_len v c
  have htn := shL_tiny v c
  unfold shOf
  generalize shL v c = xs at *
  refine Tot.eq (Tot.bind (P := (·.1 = xs.filter (setDesc set))) (Tot.loop (fun i s => s = ((xs.take i).filter (setDesc set), (i : Int), (i : Int))) xs.length (by simp) fun i s hI hi => ?_) fun r hr => Tot.ret hr)
  subst hI
  simp only [ltI, cond_dec]
  by_cases hlt : i < xs.length
  · have hfl := List.length_filter_le (setDesc set) (xs.take i)
    simp only [List.length_take] at hfl
    rw [if_pos (by omega)]
    simp only [at_nat, List.getElem?_eq_getElem hlt, Option.bind_some, takeI, if_true, spec_setDescribes set _ hset (htn _ (List.getElem_mem hlt)), List.length_singleton]
    rw [addI_eq (by omega) (by omega), room_small (by omega) (by omega)]
    have hf := filter_take (setDesc set) xs hlt
    cases hb : setDesc set xs[i] with
    | true =>
      rw [hb] at hf
      exact Tot.ret ⟨hlt, by simp only [hf, if_true, Option.bind_some]; rfl⟩
    | false =>
      rw [hb] at hf
      exact Tot.ret ⟨hlt, by simp [hf]⟩
  · rw [if_neg (by omega)]
    have : i = xs.length := by omega
    subst this
    exact Tot.ret (by simp)
theorem impl_smallHeapsOf (v : Int) (set : List TStructure) (c : Int) (hset : okSet set) : impl_SmallHeapsOf v set c = some (shOf v set c) := by
  unfold impl_SmallHeapsOf impl_described
  rw [impl_SH, Option.bind_some]
  have hl := shL_len v c
  have htn := shL_tiny v c
  unfold shOf
  generalize shL v c = xs at *
  refine Tot.eq (Tot.bind (P := (· = xs.filter (setDesc set))) (Tot.bind (P := (·.1 = xs.filter (setDesc set))) (Tot.loop (fun i s => s = ((xs.take i).filter (setDesc set), (i : Int), (i : Int))) xs.length (by simp) fun i s hI hi => ?_) fun r hr => Tot.ret hr) fun r hr => Tot.ret hr)
  subst hI
  simp only [ltI, cond_dec]
  by_cases hlt : i < xs.length
  · have hfl := List.length_filter_le (setDesc set) (xs.take i)
    simp only [List.length_take] at hfl
    rw [if_pos (by omega)]
    simp only [at_nat, List.getElem?_eq_getElem hlt, Option.bind_some, takeI, if_true, impl_SmallHeapsOf_1, impl_setDescribes set _ hset (htn _ (List.getElem_mem hlt)), List.length_singleton]
    rw [addI_eq (by omega) (by omega), room_small (by omega) (by omega)]
    have hf := filter_take (setDesc set) xs hlt
    cases hb : setDesc set xs[i] with
    | true =>
      rw [hb] at hf
      exact Tot.ret ⟨hlt, by simp only [hf, if_true, Option.bind_some]; rfl⟩
    | false =>
      rw [hb] at hf
      exact Tot.ret ⟨hlt, by simp [hf]⟩
  · rw [if_neg (by omega)]
    have : i = xs.length := by omega
    subst this
    exact Tot.ret (by simp)
end Go.Ev


namespace Go.Ev
open Wf (wf)
open Sm (sm lg)
theorem szIntS_ok {a : (List Int)} {left : Int} (hw : wf a) (hl : 0 ≤ left ∧ left ≤ 1048576) : SzOK (laws_szIntS a left) (sm a) := by
  unfold laws_szIntS
  have h := (wf_list hw).1
  rw [subI_eq (by omega) (by omega), cond_lt]
  by_cases h : left - (a.length : Int) < 0
  · rw [if_pos h]; exact ⟨-1, rfl, by omega, by omega, by omega⟩
  · rw [if_neg h]; exact ⟨_, rfl, by omega, fun _ => ⟨by omega, fun _ _ => trivial⟩, by omega⟩
theorem szNode_ok {a : TNode} {left : Int} (hw : wf a) (hl : 0 ≤ left ∧ left ≤ 1048576) : SzOK (laws_szNode a left) (sm a) := (szIntS_ok hw.1 hl).two fun n0 hn0 => (szIntS_ok hw.2.1 hn0).last
theorem szNodeS_ok {a : (List TNode)} {left : Int} (hw : wf a) (hl : 0 ≤ left ∧ left ≤ 1048576) : SzOK (laws_szNodeS a left) (sm a) := by
  refine szRow laws_szNode hl (wf_list hw).1 (fun x hx l hl => szNode_ok ((wf_list hw).2 x hx) hl) (fun i x l n hi hx hn => ?_) (fun l => ?_) (by unfold laws_szNodeS; rfl)
  · simp only [cond_lt, at_nat, hx, hn, Int.ofNat_lt, hi, if_true, Option.bind_some]
    split <;> rfl
  · simp [cond_lt]
theorem szStructure_ok {a : TStructure} {left : Int} (hw : wf a) (hl : 0 ≤ left ∧ left ≤ 1048576) : SzOK (laws_szStructure a left) (sm a) := (szNodeS_ok hw.1 hl).two fun n0 hn0 => (szIntS_ok hw.2 hn0).last
theorem toIntS_ok {a : (List Int)} (h : sm a) : laws_toIntS a = some a := by
  refine toRow (fun x => some x) (mapM_self (fun _ _ => rfl)) (sm_len h) (b := 8) (by omega) (fun i x y o hi hx hy ho => ?_) (fun o => ?_) (by unfold laws_toIntS; rfl)
  · obtain ⟨q, hq⟩ := ho
    cases hy
    simp only [cond_lt, at_nat, hx, hq, Int.ofNat_lt, hi, if_true, Option.bind_some, Int.toNat_natCast]
  · simp [cond_lt]
theorem toNode_ok {a : TNode} (h : sm a) : laws_toNode a = some a := by
  unfold laws_toNode
  rw [toIntS_ok h.1, toIntS_ok h.2]
  rfl
theorem toNodeS_ok {a : (List TNode)} (h : sm a) : laws_toNodeS a = some a := by
  refine toRow (laws_toNode) (mapM_self (fun x hx => toNode_ok (h.2 x hx))) (sm_len h) (b := 64) (by omega) (fun i x y o hi hx hy ho => ?_) (fun o => ?_) (by unfold laws_toNodeS; rfl)
  · obtain ⟨q, hq⟩ := ho
    simp only [cond_lt, at_nat, hx, hq, hy, Int.ofNat_lt, hi, if_true, Option.bind_some, Int.toNat_natCast]
  · simp [cond_lt]
theorem toStructure_ok {a : TStructure} (h : sm a) : laws_toStructure a = some a := by
  unfold laws_toStructure
  rw [toNodeS_ok h.1, toIntS_ok h.2]
  rfl
theorem eqIntS_ok {a b : (List Int)} (h : lg a) : laws_eqIntS a b = some (decide (a = b)) := by
  refine eqRow (lg_le h) (fun i x y hi hx hy => ?_) ?_ (by unfold laws_eqIntS; rfl)
  · simp only [cond_lt, cond_ne, at_nat, hx, hy, Option.bind_some, Int.ofNat_lt, hi, if_true]
    by_cases he : x = y <;> simp [he]
  · simp [cond_lt]
theorem eqHeap_ok {a b : THeap} (h : lg a) : laws_eqHeap a b = some (decide (a = b)) := by
  unfold laws_eqHeap
  rw [eqIntS_ok h.1, eqIntS_ok h.2]
  rcases a with ⟨a0, a1⟩
  rcases b with ⟨b0, b1⟩
  simp only [Option.bind_some, cond_dec, cond_ne, neS_dec, cond_ndec, THeap.mk.injEq]
  by_cases h0 : a0 = b0 <;> by_cases h1 : a1 = b1 <;> simp [h0, h1]
theorem eqNode_ok {a b : TNode} (h : lg a) : laws_eqNode a b = some (decide (a = b)) := by
  unfold laws_eqNode
  rw [eqIntS_ok h.1, eqIntS_ok h.2]
  rcases a with ⟨a0, a1, a2, a3⟩
  rcases b with ⟨b0, b1, b2, b3⟩
  simp only [Option.bind_some, cond_dec, cond_ne, neS_dec, cond_ndec, TNode.mk.injEq]
  by_cases h0 : a0 = b0 <;> by_cases h1 : a1 = b1 <;> by_cases h2 : a2 = b2 <;> by_cases h3 : a3 = b3 <;> simp [h0, h1, h2, h3]
theorem eqNodeS_ok {a b : (List TNode)} (h : lg a) : laws_eqNodeS a b = some (decide (a = b)) := by
  refine eqRow (lg_le h) (fun i x y hi hx hy => ?_) ?_ (by unfold laws_eqNodeS; rfl)
  · simp only [cond_lt, eqNode_ok (lg_mem h hx), cond_dec, at_nat, hx, hy, Option.bind_some, Int.ofNat_lt, hi, if_true]
    by_cases he : x = y <;> simp [he]
  · simp [cond_lt]
theorem eqStructure_ok {a b : TStructure} (h : lg a) : laws_eqStructure a b = some (decide (a = b)) := by
  unfold laws_eqStructure
  rw [eqNodeS_ok h.1, eqIntS_ok h.2]
  rcases a with ⟨a0, a1⟩
  rcases b with ⟨b0, b1⟩
  simp only [Option.bind_some, cond_dec, cond_ne, neS_dec, cond_ndec, TStructure.mk.injEq]
  by_cases h0 : a0 = b0 <;> by_cases h1 : a1 = b1 <;> simp [h0, h1]
end Go.Ev


namespace Go.Ev
theorem cntE_markIntS_ok (x : Int) (k : Int) (hk : 0 ≤ k) (hb : k + cntE_markIntS x ≤ maxMark) : (mkE_markIntS x k).2 = k + cntE_markIntS x := by
  unfold cntE_markIntS maxMark at *
  unfold mkE_markIntS
  have h0 : addI k 1 = k + 1 := addI_eq (by omega) (by omega)
  simp only
  omega
theorem markIntS_snd (xs : List Int) (k : Int) (hk : 0 ≤ k) (hb : k + cntF_markIntS xs ≤ maxMark) : (mkF_markIntS xs k).2 = k + cntF_markIntS xs := mkRow_snd cntE_markIntS_ok xs k hk hb
theorem heldIntS_ok {xs : List Int} {k0 : Int} (hl : Sm.lg xs) (hk : 0 ≤ k0) (hb : k0 + cntF_markIntS xs ≤ maxMark) : laws_heldIntS (mkF_markIntS xs k0).1 k0 = some (mkF_markIntS xs k0).2 := by
  unfold laws_heldIntS
  have hlg : ∀ x ∈ xs, Sm.lg x := hl.2
  rw [held_row (ys := (mkF_markIntS xs k0).1) (E := mkE_markIntS) (cnt := cntE_markIntS) (xs := xs) cntE_markIntS_ok (fun i x k hx0 hi hx hk hb => ?_) (fun k => by simp [cond_lt]) rfl (by have := hl.1; omega) hk hb]
  · rfl
  · have e0 : at? (mkF_markIntS xs k0).1 (i : Int) = some (mkE_markIntS x k).1 := by rw [at_nat]; exact hx
    unfold cntE_markIntS maxMark at hb
    have h0 : addI k 1 = k + 1 := addI_eq (by omega) (by omega)
    have hc : ltI (i : Int) ((mkF_markIntS xs k0).1.length : Int) = true := by simpa [ltI] using hi
    simp only [hc, e0, mkE_markIntS, cond_true, cond_false, Option.bind_some, neI, decide_true, Bool.not_true, ]
theorem cntE_markNodeS_ok (x : TNode) (k : Int) (hk : 0 ≤ k) (hb : k + cntE_markNodeS x ≤ maxMark) : (mkE_markNodeS x k).2 = k + cntE_markNodeS x := by
  unfold cntE_markNodeS maxMark at *
  unfold mkE_markNodeS
  have h0 := markIntS_snd x.vars k (by omega) (by unfold maxMark; omega)
  have h1 := markIntS_snd x.reach ((mkF_markIntS x.vars k).2) (by omega) (by unfold maxMark; omega)
  have h2 : addI ((mkF_markIntS x.reach ((mkF_markIntS x.vars k).2)).2) 1 = ((mkF_markIntS x.reach ((mkF_markIntS x.vars k).2)).2) + 1 := addI_eq (by omega) (by omega)
  have h3 : addI (addI ((mkF_markIntS x.reach ((mkF_markIntS x.vars k).2)).2) 1) 1 = (addI ((mkF_markIntS x.reach ((mkF_markIntS x.vars k).2)).2) 1) + 1 := addI_eq (by omega) (by omega)
  simp only
  omega
theorem markNodeS_snd (xs : List TNode) (k : Int) (hk : 0 ≤ k) (hb : k + cntF_markNodeS xs ≤ maxMark) : (mkF_markNodeS xs k).2 = k + cntF_markNodeS xs := mkRow_snd cntE_markNodeS_ok xs k hk hb
theorem markStructure_snd (x : TStructure) (k : Int) (hk : 0 ≤ k) (hb : k + cntF_markStructure x ≤ maxMark) : (mkF_markStructure x k).2 = k + cntF_markStructure x := by
  unfold cntF_markStructure maxMark at *
  unfold mkF_markStructure
  have h0 := markNodeS_snd x.nodes k (by omega) (by unfold maxMark; omega)
  have h1 := markIntS_snd x.next ((mkF_markNodeS x.nodes k).2) (by omega) (by unfold maxMark; omega)
  simp only
  omega
theorem markHeap_snd (x : THeap) (k : Int) (hk : 0 ≤ k) (hb : k + cntF_markHeap x ≤ maxMark) : (mkF_markHeap x k).2 = k + cntF_markHeap x := by
  unfold cntF_markHeap maxMark at *
  unfold mkF_markHeap
  have h0 := markIntS_snd x.vars k (by omega) (by unfold maxMark; omega)
  have h1 := markIntS_snd x.next ((mkF_markIntS x.vars k).2) (by omega) (by unfold maxMark; omega)
  simp only
  omega
theorem heldHeap_ok {x : THeap} {k : Int} (hl : Sm.lg x) (hk : 0 ≤ k) (hb : k + cntF_markHeap x ≤ maxMark) : laws_heldHeap (mkF_markHeap x k).1 k = some (mkF_markHeap x k).2 := by
  unfold cntF_markHeap maxMark at hb
  unfold laws_heldHeap mkF_markHeap
  have h0 := markIntS_snd x.vars k (by omega) (by unfold maxMark; omega)
  have w0 := heldIntS_ok (xs := x.vars) (k0 := k) hl.1 (by omega) (by unfold maxMark; omega)
  have n0 : ltI (mkF_markIntS x.vars k).2 0 = false := by simp only [ltI, decide_eq_false_iff_not]; omega
  have h1 := markIntS_snd x.next ((mkF_markIntS x.vars k).2) (by omega) (by unfold maxMark; omega)
  have w1 := heldIntS_ok (xs := x.next) (k0 := (mkF_markIntS x.vars k).2) hl.2 (by omega) (by unfold maxMark; omega)
  have n1 : ltI (mkF_markIntS x.next ((mkF_markIntS x.vars k).2)).2 0 = false := by simp only [ltI, decide_eq_false_iff_not]; omega
  simp only [cond_false, Option.bind_some, w0, n0, w1, n1]
end Go.Ev


namespace Go.Ev
open Wf (wf)
open Sm (sm lg)
theorem lg_tiny {h : THeap} (ht : tiny h) : lg h := ⟨lg_ints (by have := ht.1; omega), lg_ints (by have := ht.2; omega)⟩
theorem cntI_len (xs : List Int) : cntF_markIntS xs = xs.length := by
  unfold cntF_markIntS totC
  induction xs with
  | nil => rfl
  | cons x xs ih =>
    rw [List.map_cons, List.sum_cons, ih, List.length_cons]
    show 1 + xs.length = xs.length + 1
    omega
theorem cntI_len' (xs : List Int) : cntF_markIntS xs = xs.length := by
  unfold cntF_markIntS totC
  induction xs with
  | nil => rfl
  | cons x xs ih =>
    rw [List.map_cons, List.sum_cons, ih, List.length_cons]
    show 1 + xs.length = xs.length + 1
    omega
theorem cnt_nodes {xs : List TNode} (h : sm xs) : cntF_markNodeS xs ≤ 2200000000000 := by
  have := totC_le cntE_markNodeS 2097154 xs fun x hx => by
    have hx := h.2 x hx
    unfold cntE_markNodeS
    rw [cntI_len', cntI_len']
    have := hx.1.1
    have := hx.2.1
    omega
  refine Nat.le_trans this (Nat.le_trans (Nat.mul_le_mul_right _ h.1) (by decide))
theorem cnt_str {s : TStructure} (h : sm s) : cntF_markNodeS s.nodes + cntF_markIntS s.next ≤ 2200001048576 := by
  have h1 := cnt_nodes h.1
  rw [cntI_len']
  have := h.2.1
  omega
end Go.Ev


namespace Go.Ev
open Wf (wf)
open Sm (sm lg)
theorem shOf_tiny (v : Int) (set : List TStructure) (c : Int) : ∀ h ∈ shOf v set c, tiny h := fun h hh => shL_tiny v c h (List.mem_filter.1 hh).1
theorem shL_pre (v : Int) (i : Nat) (hi : i ≤ 3) : ∃ t, shL v 3 = shL v i ++ t := by
  unfold shL
  by_cases hv : 1 ≤ v ∧ v ≤ 4
  · rw [if_pos ⟨hv, by omega⟩, if_pos ⟨hv, by omega⟩]
    have h1 : ((3 : Int).toNat) = 3 := rfl
    rw [h1, Int.toNat_natCast]
    unfold shF
    have : List.range (3 + 1) = List.range (i + 1) ++ List.range' (i + 1) (3 - i) := by
      rw [List.range_eq_range', List.range_eq_range']
      have := @List.range'_append 0 (i + 1) (3 - i) 1
      simp only [Nat.one_mul, Nat.zero_add] at this
      rw [this]
      congr 1
      omega
    rw [this, List.flatMap_append]
    exact ⟨_, rfl⟩
  · rw [if_neg (by omega), if_neg (by omega)]
    exact ⟨[], rfl⟩
theorem shOf_pre (v : Int) (set : List TStructure) (i : Nat) (hi : i ≤ 3) : ∃ t, shOf v set 3 = shOf v set i ++ t := by
  obtain ⟨t, ht⟩ := shL_pre v i hi
  unfold shOf
  rw [ht, List.filter_append]
  exact ⟨_, rfl⟩
def hd3 (h : THeap) : Bool × List Int × List Int := (true, h.vars, h.next)
theorem first_least (v : Int) (set : List TStructure) : (List.range 4).findSome? (fun i : Nat => (shOf v set i).head?.map hd3) = (shOf v set 3).head?.map hd3 := by
  have key : ∀ i : Nat, i ≤ 3 → ∀ h, (shOf v set i).head? = some h → (shOf v set 3).head? = some h := fun i hi h hh => by
    obtain ⟨t, ht⟩ := shOf_pre v set i hi
    rw [ht]
    cases hl : shOf v set i with
    | nil => rw [hl] at hh; cases hh
    | cons x xs => rw [hl] at hh; exact hh
  show (([0, 1, 2, 3] : List Nat)).findSome? _ = _
  simp only [List.findSome?_cons, List.findSome?_nil]
  cases h0 : (shOf v set ((0 : Nat) : Int)).head? with
  | some h => rw [key 0 (by omega) h h0]; rfl
  | none =>
    cases h1 : (shOf v set ((1 : Nat) : Int)).head? with
    | some h => rw [key 1 (by omega) h h1]; rfl
    | none =>
      cases h2 : (shOf v set ((2 : Nat) : Int)).head? with
      | some h => rw [key 2 (by omega) h h2]; rfl
      | none =>
        simp only [Option.map_none]
        rw [show (((3 : Nat)) : Int) = 3 from rfl]
        cases (shOf v set 3).head? <;> rfl
def leastF (v : Int) (s : TStructure) : THeap × Bool := match (shOf v [s] 3).head? with | some h => (h, true) | none => (⟨[], []⟩, false)
theorem spec_least (v : Int) (s : TStructure) (hok : okSet [s]) : spec_LeastHeap v s = some (leastF v s) := by
  unfold spec_LeastHeap
  refine Tot.eq (Tot.bind (P := (· = firstR ((shOf v [s] 3).head?.map hd3) ())) (Tot.first 4 (fun i : Nat => (shOf v [s] i).head?.map hd3) () (fun i hi => ?_) ?_ ?_) fun r hr => ?_)
  · simp only [leI, ltI, cond_dec, spec_smallHeapsOf v [s] _ hok, Option.bind_some]
    rw [if_pos (by omega), addI_eq (by omega) (by omega)]
    cases hl : shOf v [s] (i : Int) with
    | nil => rw [if_neg (by simp)]; exact Tot.ret rfl
    | cons h t =>
      rw [if_pos (by simp only [List.length_cons]; omega), show (0 : Int) = ((0 : Nat) : Int) from rfl, at_nat]
      simp only [List.getElem?_cons_zero, Option.bind_some, takeI, if_true]
      exact Tot.ret rfl
  · simp only [leI, cond_dec]
    rw [if_neg (by omega)]
    exact Tot.ret rfl
  · rw [first_least]
  · subst hr
    unfold leastF
    cases (shOf v [s] 3).head? <;> exact Tot.ret rfl
theorem impl_least (v : Int) (s : TStructure) (hok : okSet [s]) : impl_LeastHeap v s = some (leastF v s) := by
  unfold impl_LeastHeap leastF
  rw [impl_smallHeapsOf v [s] 3 hok, Option.bind_some]
  cases hl : shOf v [s] 3 with
  | nil => rfl
  | cons h t =>
    simp only [eqI, cond_dec]
    rw [if_neg (by simp only [List.length_cons]; omega), show (0 : Int) = ((0 : Nat) : Int) from rfl, at_nat]
    simp [takeI]
theorem least_tiny (v : Int) (s : TStructure) : tiny (leastF v s).1 := by
  unfold leastF
  cases hl : shOf v [s] 3 with
  | nil => exact ⟨by simp, by simp⟩
  | cons h t => exact shOf_tiny v [s] 3 h (by rw [hl]; exact List.mem_cons_self ..)
theorem law_LeastHeap {v : Int} {s : TStructure} (_ : wf v) (hs : wf s) : laws_FnExactLeastHeap v s = some true := by
  unfold laws_FnExactLeastHeap
  obtain ⟨n, h1, h2, h3, h4⟩ := szStructure_ok hs (left := 1048576) (by omega)
  rw [h1, Option.bind_some, cond_lt]
  by_cases hn : n < 0
  · rw [if_pos hn]
  · rw [if_neg hn]
    have s1 := h3 (by omega)
    have hok : okSet [s] := ⟨by unfold small; simp, fun t ht => by simp at ht; subst ht; have := s1.1.1; unfold small; omega⟩
    have hcs := cnt_str s1
    have hb1 : (1 : Int) + cntF_markStructure s ≤ maxMark := by unfold maxMark cntF_markStructure; omega
    have e1 := markStructure_snd s 1 (by omega) hb1
    have n1 : ltI (mkF_markStructure s 1).2 0 = false := by simp only [ltI, decide_eq_false_iff_not]; omega
    have ht := least_tiny v s
    have hlg := lg_tiny ht
    have hb2 : (1 : Int) + cntF_markHeap (leastF v s).1 ≤ maxMark := by
      unfold maxMark cntF_markHeap
      rw [cntI_len, cntI_len]
      unfold tiny at ht
      omega
    have e2 := markHeap_snd (leastF v s).1 1 (by omega) hb2
    have n2 : ltI (mkF_markHeap (leastF v s).1 1).2 0 = false := by simp only [ltI, decide_eq_false_iff_not]; omega
    simp [toStructure_ok s1, spec_least v s hok, impl_least v s hok, eqStructure_ok (sm_lg s1), eqHeap_ok hlg, markO_some (sm_lg s1), markO_some hlg, n1, n2, heldHeap_ok hlg (by omega) hb2, neI, neB]
end Go.Ev


namespace Go.Proofs
open Go.Ev
@[simp] theorem ti_3 : ti Try.prog 3 = some { size := 1, bytes := 8, agg := false, elem := none, flds := [], zero := [.int .i64 0] } := by kernel_rfl
@[simp] theorem ti_4 : ti Try.prog 4 = some { size := 1, bytes := 1, agg := false, elem := none, flds := [], zero := [.bool false] } := by kernel_rfl
attribute [simp] Try.underlying4
@[simp] theorem ti_22 : ti Try.prog 22 = some { size := 1, bytes := 24, agg := false, elem := some 124, flds := [], zero := [.slice none 0 0] } := by kernel_rfl
@[simp] theorem ti_23 : ti Try.prog 23 = some { size := 1, bytes := 24, agg := false, elem := some 3, flds := [], zero := [.slice none 0 0] } := by kernel_rfl
@[simp] theorem ti_25 : ti Try.prog 25 = some { size := 2, bytes := 48, agg := true, elem := none, flds := [(0, 22), (1, 23)], zero := [.slice none 0 0, .slice none 0 0] } := by kernel_rfl
@[simp] theorem ti_28 : ti Try.prog 28 = some { size := 2, bytes := 48, agg := true, elem := none, flds := [(0, 23), (1, 23)], zero := [.slice none 0 0, .slice none 0 0] } := by kernel_rfl
@[simp] theorem ti_31 : ti Try.prog 31 = some { size := 1, bytes := 24, agg := false, elem := some 115, flds := [], zero := [.slice none 0 0] } := by kernel_rfl
@[simp] theorem ti_33 : ti Try.prog 33 = some { size := 2, bytes := 48, agg := true, elem := none, flds := [(0, 31), (1, 23)], zero := [.slice none 0 0, .slice none 0 0] } := by kernel_rfl
@[simp] theorem ti_43 : ti Try.prog 43 = some { size := 1, bytes := 24, agg := false, elem := some 25, flds := [], zero := [.slice none 0 0] } := by kernel_rfl
@[simp] theorem ti_45 : ti Try.prog 45 = some { size := 1, bytes := 24, agg := false, elem := some 28, flds := [], zero := [.slice none 0 0] } := by kernel_rfl
@[simp] theorem ti_47 : ti Try.prog 47 = some { size := 1, bytes := 24, agg := false, elem := some 33, flds := [], zero := [.slice none 0 0] } := by kernel_rfl
@[simp] theorem ti_112 : ti Try.prog 112 = some { size := 1, bytes := 24, agg := false, elem := some 23, flds := [], zero := [.slice none 0 0] } := by kernel_rfl
@[simp] theorem ti_115 : ti Try.prog 115 = some { size := 4, bytes := 64, agg := true, elem := none, flds := [(0, 23), (1, 23), (2, 3), (3, 3)], zero := [.slice none 0 0, .slice none 0 0, .int .i64 0, .int .i64 0] } := by kernel_rfl
@[simp] theorem ti_124 : ti Try.prog 124 = some { size := 4, bytes := 64, agg := true, elem := none, flds := [(0, 23), (1, 23), (2, 3), (3, 3)], zero := [.slice none 0 0, .slice none 0 0, .int .i64 0, .int .i64 0] } := by kernel_rfl
@[simp] theorem ti_225 : ti Try.prog 225 = some { size := 1, bytes := 8, agg := false, elem := none, flds := [], zero := [.nilFunc] } := by kernel_rfl
end Go.Proofs


namespace Go.Proofs
open Go.Ev Go.RowKit Go.Lib
theorem INFO3 : (Try.prog.info? 3).map (fun i => (i.zero, i.size, i.bytes)) = some (some (.int .i64 0), 1, 8) := by kernel_rfl
set_option maxHeartbeats 4000000 in
set_option maxRecDepth 100000 in
theorem grow255_zero (w : World) : Calls Try.prog 255 #[.slice none 0 0, .int .i64 0] w fun e w' => e = .returned (.slice none 0 0) ∧ w' = w := by
  have u23 : ∀ w, Sem.run Try.prog (underlying 23) w = .ok (TypeDesc.slice 3) w := run_underlying Try.underlying23
  go_enter Try.func255, Try.ntmps255
  go_wp2
  go_ret
  exact ⟨rfl, rfl⟩

set_option maxHeartbeats 4000000 in
set_option maxRecDepth 100000 in
theorem grow255_pos (n : Nat) (w : World) (h0 : 0 < n) (hbig : n * 8 ≤ 140737488355328) :
    Calls Try.prog 255 #[.slice none 0 0, .int .i64 n] w fun e w' => ∃ v, e = .returned v ∧ w'.ownsRow w.heap.size 3 1 v 0 [] ∧ Below w.heap.size w w' := by
  obtain ⟨i0, hi, hz0, hz1, hz2⟩ := info_parts INFO3
  have u23 : ∀ w, Sem.run Try.prog (underlying 23) w = .ok (TypeDesc.slice 3) w := run_underlying Try.underlying23
  have hrz := fun ty => run_append_grow_zeros (P := Try.prog) w 23 3 ty 3 i0 (.int .i64 0) .i64 .i64 Try.underlying23 Try.underlying3 hi hz0 none 0 0 [] (run_firstCells_none w.drew i0.size 0 0 0) n h0 (by omega) (by omega) (by omega) (by rw [hz2]; omega)
    (by rw [hz2]; exact growslice_fits (by omega) (by omega))
  have hGn : 0 + n ≤ grownCap w (0 + n) 0 3 := grownCap_ge w _ _ _
  have hGm := grownCap_le_maxLen w (0 + n) 0 3 (by unfold maxLen; omega)
  obtain ⟨G, hG⟩ : ∃ G, G = grownCap w (0 + n) 0 3 := ⟨_, rfl⟩
  rw [← hG] at hrz hGn hGm
  have A : Aside (G ≤ maxLen) := hGm
  clear hG hGm
  simp only [Nat.zero_add] at hrz hGn
  have h1 : ¬ ((n : Int) < 0) := by omega
  have h2 : ((n : Int) > 0) := by omega
  have h3 : wrap64 (n : Int) = n := by unfold wrap64; omega
  have h4 : G ≤ 9223372036854775807 := by have := A.out; unfold maxLen at this; omega
  have B : Aside (i0.size = 1) := hz1
  clear hz1 hz2
  go_enter Try.func255, Try.ntmps255
  go_wp2_with (at_builtin; refine Lib.wpList_append_run _ rfl _ _ _ _ rfl _ _ rfl rfl _ _ (hrz _) ?_)
  all_goals (go_ret; refine ⟨_, rfl, ⟨rfl, .inr ⟨_, _, _, rfl, Nat.le_refl _, heap_new _ _, Nat.zero_le _, A.out, ?_, by simp⟩⟩, rfl, rfl, rfl, by (show w.heap.size ≤ (w.heap.push _).size); rw [Array.size_push]; omega, fun k hk => heap_old _ _ hk⟩)
  all_goals (simp [Builtin.zeroCells]; omega)

theorem grow255 (n : Nat) (w : World) (hbig : n * 8 ≤ 140737488355328) :
    Calls Try.prog 255 #[.slice none 0 0, .int .i64 n] w fun e w' => ∃ v, e = .returned v ∧ w'.ownsRow w.heap.size 3 1 v 0 [] ∧ (n = 0 → v = .slice none 0 0) ∧ Below w.heap.size w w' := by
  rcases Nat.eq_zero_or_pos n with rfl | hn
  · refine (grow255_zero w).mono fun e w' h => ?_
    obtain ⟨rfl, rfl⟩ := h
    exact ⟨_, rfl, ⟨rfl, .inl ⟨rfl, rfl⟩⟩, fun _ => rfl, Below.refl _ _⟩
  · refine (grow255_pos n w hn hbig).mono fun e w' h => ?_
    obtain ⟨v, rfl, h1, h2⟩ := h
    exact ⟨v, rfl, h1, fun h0 => by omega, h2⟩

set_option maxHeartbeats 8000000 in
set_option maxRecDepth 1000000 in
theorem concat227 (xa : Option Addr) (xb xo N xc : Nat) (ra : Nat → Option Addr) (nn rc : Nat → Nat) (ne : Nat → List Value) (w : World) (hxa : 0 < N → xa = some ⟨xb, xo, none⟩) (hN : Hid (N ≤ maxLen))
    (hc : Aside (∀ j, j < N → w.cell? ⟨xb, xo + j, none⟩ = some (.slice (ra j) (nn j) (rc j)))) (hr : Aside (∀ j, j < N → RowAt w 1 (ra j) (nn j) (ne j))) (hbig : Aside (tot nn N * 8 ≤ 140737488355328)) :
    Calls Try.prog 227 #[.slice xa N xc] w fun e w' => ∃ v, e = .returned v ∧ w'.ownsRow w.heap.size 3 1 v (tot nn N) (cat ne N) ∧ (tot nn N = 0 → v = .slice none 0 0) ∧ Below w.heap.size w w' := by
  obtain ⟨i0, hi, hz0, hz1, hz2⟩ := info_parts INFO3
  have B : Aside (i0.size = 1 ∧ i0.bytes = 8) := ⟨hz1, hz2⟩
  clear hz1 hz2
  go_enter Try.func227, Try.ntmps227
  go_wp2
  go_loopg [3, 11] N (fun k s c wr => ∃ j, k = N - j ∧ j ≤ N ∧ s = .int .i64 (tot nn j : Nat) ∧ c = .int .i64 j ∧ w = wr)
  case atStart => exact ⟨0, rfl, Nat.zero_le _, rfl, rfl, rfl⟩
  case round =>
    obtain ⟨j, hk, hj, rfl, rfl, rfl⟩ := hrel
    by_cases hlt : j < N
    · obtain rfl := hxa (by omega)
      have hx := hc.out j hlt
      have hlt' : (j : Int) < (N : Int) := by omega
      have hw : wrap64 ((tot nn j : Int) + (nn j : Int)) = ((tot nn (j + 1) : Nat) : Int) := by
        have := tot_mono nn (i := j + 1) (j := N) (by omega)
        have := hbig.out
        exact wrap_add (by simp only [tot] at *; unfold maxLen; omega)
      have hneg : ¬ (((tot nn (j + 1) : Nat) : Int) < 0) := by omega
      go_wp2
      go_roundg (N - (j + 1))
      case measure => omega
      case rel => exact ⟨j + 1, rfl, by omega, rfl, by simp; exact wrap_add (a := j) (b := 1) (by have := hN.out; omega), rfl⟩
    · obtain rfl : j = N := by omega
      have hg := grow255 (tot nn j) w hbig.out
      go_wp2_with (go_at_call 255; refine hg.mono ?_; rintro e w' ⟨v, rfl, hown, hnil, hbel⟩)
      clear hg
      go_loopg [6, 27] j (fun k d c wq => ∃ i, k = j - i ∧ i ≤ j ∧ c = .int .i64 i ∧ wq.ownsRow w.heap.size 3 1 d (tot nn i) (cat ne i) ∧ (tot nn j = 0 → d = .slice none 0 0) ∧ Below w.heap.size w wq)
      case atStart => exact ⟨0, rfl, Nat.zero_le _, rfl, hown, hnil, hbel⟩
      case round =>
        obtain ⟨i, hk, hi2, rfl, hown2, hnil2, hbel2⟩ := hrel
        by_cases hlt2 : i < j
        · obtain rfl := hxa (by omega)
          have hx : wr.cell? ⟨xb, xo + i, none⟩ = some (.slice (ra i) (nn i) (rc i)) := by
            have := hc.out i hlt2
            rw [← this]
            exact World.cell?_of_block (hbel2.block xb (World.block_lt_of_cell? _ _ this))
          obtain ⟨v2, w2, hrun, hown3, hgr, hnil3⟩ := run_append_rowAt (P := Try.prog) w.heap.size 23 23 3 i0 (.int .i64 0) 1 8 Try.underlying23 hi hz0 B.out.1 B.out.2 rfl (by decide) _ _ _ hown2 (ra i) (nn i) (rc i) (ne i) (hr.out i hlt2) hbel2.block
            (by have := tot_mono nn (i := i + 1) (j := j) (by omega); have := hbig.out; simp only [tot] at *; unfold maxLen; omega) (by have := tot_mono nn (i := i + 1) (j := j) (by omega); have := hbig.out; simp only [tot] at *; omega) hbel2.size
          have hbel3 : Below w.heap.size w w2 := by
            refine hbel2.trans ⟨hgr.os, hgr.tape, hgr.output, hgr.size, fun k hk => hgr.block k (Nat.lt_of_lt_of_le hk hbel2.size) fun he => ?_⟩
            rcases hown2.2 with ⟨h1, _⟩ | ⟨g, cap, cur, h1, h2, _⟩
            · rw [h1] at he; simp [Value.ownBlock] at he
            · rw [h1] at he; simp [Value.ownBlock] at he; omega
          have hnil4 : tot nn j = 0 → v2 = .slice none 0 0 := fun h0 => by
            have := tot_mono nn (i := i + 1) (j := j) (by omega)
            rw [hnil3 (by simp only [tot] at *; omega), hnil2 h0]
          have hlt3 : (i : Int) < (j : Int) := by omega
          have H : Aside (w2.ownsRow w.heap.size 3 1 v2 (tot nn (i + 1)) (cat ne (i + 1)) ∧ (tot nn j = 0 → v2 = .slice none 0 0) ∧ Below w.heap.size w w2) := ⟨hown3, hnil4, hbel3⟩
          clear hown3 hnil4 hbel3 hnil3 hgr hown2 hnil2 hbel2 hown hnil hbel
          go_wp2_with (at_builtin; refine Lib.wpList_append_run _ rfl _ _ _ _ rfl _ _ rfl rfl _ _ hrun ?_)
          go_roundg (j - (i + 1))
          case measure => omega
          case rel => exact ⟨i + 1, rfl, by omega, by simp; exact wrap_add (a := i) (b := 1) (by have := hN.out; omega), H.out.1, H.out.2⟩
        · obtain rfl : i = j := by omega
          go_wp2
          go_ret
          exact ⟨_, rfl, hown2, hnil2, hbel2⟩

noncomputable def C227 : List AV → Option AV := specP (X := List (List Int) × Unit) fun x => slices_Concat_int x.1
theorem C227_eq {s : List (List Int)} {y} (h : slices_Concat_int s = some y) : C227 [av .shr s] = some (Res.res y) := specP_eq (X := List (List Int) × Unit) (F := fun x => slices_Concat_int x.1) (x := (s, ())) h
theorem pc227 : PC Try.prog 227 C227 :=
  pc_concat (α := Int) (e := 3) (bytes := 8) ⟨Try.f227, Try.func227, by kernel_rfl, by kernel_rfl⟩
    fun xa xb xo N xc ra nn rc ne w h1 h2 h3 h4 h5 => concat227 xa xb xo N xc ra nn rc ne w h1 h2 h3 h4 h5

set_option maxHeartbeats 2000000 in
set_option maxRecDepth 100000 in
theorem clone127_nil (n c : Nat) (w : World) : Calls Try.prog 127 #[.slice none n c] w fun e w' => e = .returned (.slice none 0 0) ∧ w' = w := by
  have q23 : ∀ (w : World) (a : Option Addr) (n c n' c' : Nat), (binOp .eql 23 (.slice a n c) (.slice none n' c')).run Try.prog w = .ok (.bool a.isNone) w := fun w a n c n' c' => Lib.run_eql_slice_nil w _ _ a n c n' c' Try.underlying23
  go_enter Try.func127, Try.ntmps127
  go_wp2
  go_ret
  exact ⟨rfl, rfl⟩

set_option maxHeartbeats 2000000 in
set_option maxRecDepth 100000 in
theorem clone127_zero (a : Addr) (c : Nat) (w : World) :
    Calls Try.prog 127 #[.slice (some a) 0 c] w fun e w' => ∃ b, e = .returned (.slice b 0 0) ∧ w' = w.alloc (.cells #[] 3) := by
  have q23 : ∀ (w : World) (a : Option Addr) (n c n' c' : Nat), (binOp .eql 23 (.slice a n c) (.slice none n' c')).run Try.prog w = .ok (.bool a.isNone) w := fun w a n c n' c' => Lib.run_eql_slice_nil w _ _ a n c n' c' Try.underlying23
  go_enter Try.func127, Try.ntmps127
  go_wp2
  go_ret
  exact ⟨_, rfl, rfl⟩

set_option maxHeartbeats 2000000 in
set_option maxRecDepth 100000 in
theorem clone127_row (b off n c : Nat) (vs : List Value) (w : World) (hlen : vs.length = n * 1) (hbig : n * 8 ≤ 140737488355328) (hsc : ∀ u ∈ vs, scal u = true) (hc : ∀ j u, vs[j]? = some u → w.cell? ⟨b, off + j, none⟩ = some u) :
    Calls Try.prog 127 #[.slice (some ⟨b, off, none⟩) n c] w fun e w' => ∃ v', e = .returned v' ∧ w'.ownsRow w.heap.size 3 1 v' n vs ∧ Below w.heap.size w w' := by
  obtain ⟨i0, hi, hz0, hz1, hz2⟩ := info_parts INFO3
  have q23 : ∀ (w : World) (a : Option Addr) (n c n' c' : Nat), (binOp .eql 23 (.slice a n c) (.slice none n' c')).run Try.prog w = .ok (.bool a.isNone) w := fun w a n c n' c' => Lib.run_eql_slice_nil w _ _ a n c n' c' Try.underlying23
  have u23 : ∀ w, Sem.run Try.prog (underlying 23) w = .ok (TypeDesc.slice 3) w := run_underlying Try.underlying23
  have A : Aside (∀ j u, vs[j]? = some u → w.cell? ⟨b, off + j, none⟩ = some u) := hc
  clear hc
  go_enter Try.func127, Try.ntmps127
  go_wp2_with (at_builtin; refine wpList_append_own _ rfl _ _ 23 rfl w.heap.size 3 i0 (.int .i64 0) 1 8 Try.underlying23 hi hz0 hz1 hz2 rfl (by decide) _ _ _ rfl (World.ownsRow_made w #[] 0 (Nat.le_refl _) (Nat.zero_le _) rfl) ⟨b, off, none⟩ n c vs rfl ?qc1 ?qc2 ?qc3 ?qc4 ?qc5 ?qc6 ?_)
  case qc1 => exact hlen
  case qc2 =>
    intro j u hj
    rw [Addr.add_lit]
    exact Lib.cell?_alloc_some _ (A.out j u hj)
  case qc3 =>
    intro u hu
    have := hsc u hu
    cases u <;> first | rfl | cases this
  case qc4 => unfold maxLen; omega
  case qc5 => omega
  case qc6 => simp
  intro v' w1 hown hgrow hnil
  go_wp2
  go_ret
  refine ⟨_, rfl, by simpa using hown, ?_⟩
  refine ⟨hgrow.os, hgrow.tape, hgrow.output, ?_, fun k hk => ?_⟩
  · have := hgrow.size; rw [World.size_alloc] at this; omega
  · rw [hgrow.block k (by rw [World.size_alloc]; omega) (by simp [Value.ownBlock]; omega), heap_old w _ hk]

noncomputable def C127 : List AV → Option AV := specP (X := List Int × Unit) fun x => slices_Clone_int x.1
theorem C127_eq {s : List Int} {y} (h : slices_Clone_int s = some y) : C127 [av .shr s] = some (Res.res y) := specP_eq (X := List Int × Unit) (F := fun x => slices_Clone_int x.1) (x := (s, ())) h
theorem pc127 : PC Try.prog 127 C127 :=
  pc_clone (α := Int) (e := 3) (bytes := 8) ⟨Try.f127, Try.func127, by kernel_rfl, by kernel_rfl⟩ clone127_nil
    (fun a c w => (clone127_zero a c w).mono fun e w' h => by
      obtain ⟨b, rfl, rfl⟩ := h
      exact ⟨b, rfl, rfl, rfl, rfl, by rw [World.size_alloc]; omega, fun k hk => heap_old w _ hk⟩)
    clone127_row
end Go.Proofs


namespace Go.Proofs
open Go.Ev
open Enc (enc)
abbrev G57 (g : Cfg) : Prop := Has Try.prog g 57 Try.f57 [] [(2, rowKp)] [] []
set_option maxHeartbeats 4000000 in
set_option maxRecDepth 100000 in
theorem mk57 {g : Cfg} (G : G57 g) : MkOK g 57 false mkF_markIntS := by
  have gP := G.P; have gt := G.tk; have gr := G.ro; have gg := G.gh
  refine mark_row_ok fun xs k d e r mem hx hd hT hR => ?_
  have hl : xs.length ≤ 9223372036854775806 := by have := hx.1; omega
  refine start_m (Try.f57.body.getD .skip) [.tmp 4] G Try.func57 (by kernel_rfl) (by simp [Try.ntmps57]) rfl ?_
  simp [Try.f57, gP, gt, gr, gg]
  refine goal_rows mkE_markIntS xs k d r mem (G.kp (2, rowKp) (by simp)) (by simp) (by simp) (by simp) hR (MemU.refl _ _ _) hl ?_ ?_ ?_
  · intro i A B x k' σ' hx2 hi hi2 hA e0 e1 e5 R0 M0
    have hxl := hx.2 x hx2
    have hlt : ltI (i : Int) (xs.length : Int) = true := by simpa [ltI] using hi
    have hinc : addI (i : Int) 1 = ((i + 1 : Nat) : Int) := addI_eq (by omega) (by omega)
    have R0 : RowI σ'.mem d r (A ++ ((.sc (.int .i64 x)) :: B)) := R0
    have C0 := R0.1
    obtain ⟨P0, hP0⟩ : ∃ P : List D, P = A ++ [] := ⟨_, rfl⟩
    have l0 : P0.length = i := by rw [hP0, List.length_append, hA]; simp
    have q0 : A ++ ((.sc (.int .i64 x)) :: B) = P0 ++ ((.sc (.int .i64 x)) :: (B)) := by rw [hP0, List.append_assoc]; rfl
    obtain ⟨w1, R1, M1'⟩ := row_store (v' := .int .i64 k') q0 R0
    have q0' : P0 ++ (.sc (.int .i64 k') :: (B)) = A ++ ((.sc (.int .i64 k')) :: B) := by rw [hP0, List.append_assoc]; rfl
    rw [q0'] at w1 R1 M1'
    rw [l0] at w1
    have M1 := M0.trans M1'
    have h0 : i + 1 ≤ (bxL d r 0 (A ++ ((.sc (.int .i64 x)) :: B))).length := by rw [bxL_length, q0, List.length_append, List.length_cons, l0]; omega
    simp [gP, gt, gr, gg, e0, e1, e5, hlt, hinc, hi, C0, w1, h0]
    exact ⟨_, rfl, by simp [e0], by simp [mkE_markIntS], by simp, R1, M1⟩
  · intro z k' σ' e0 e1 e5
    have hlt : ltI (xs.length : Int) (xs.length : Int) = false := by simp [ltI]
    simp [gP, gt, gr, gg, e0, e1, e5, hlt]
    exact ⟨_, rfl, by simp [e1], rfl⟩
  · intro σ' e1 eR eM
    have hT2 : memKill (fun k => decide (e < k.1)) σ'.mem = σ'.mem := eM.tight hd hT
    simp [gP, gt, gr, gg, e1, Goal, FnEndM, hT2]
    exact ⟨_, _, ⟨rfl, rfl⟩, rfl, eM, eR⟩

abbrev G56 (g : Cfg) : Prop := Has Try.prog g 56 Try.f56 [] [(2, rowKp)] [] []
set_option maxHeartbeats 4000000 in
set_option maxRecDepth 100000 in
theorem mk56 {g : Cfg} (G : G56 g) (G_57 : G57 g) : MkOK g 56 false mkF_markNodeS := by
  have gP := G.P; have gt := G.tk; have gr := G.ro; have gg := G.gh
  have i_57 := G_57.no
  refine mark_row_ok fun xs k d e r mem hx hd hT hR => ?_
  have hl : xs.length ≤ 9223372036854775806 := by have := hx.1; omega
  refine start_m (Try.f56.body.getD .skip) [.tmp 4] G Try.func56 (by kernel_rfl) (by simp [Try.ntmps56]) rfl ?_
  simp [Try.f56, gP, gt, gr, gg]
  refine goal_rows mkE_markNodeS xs k d r mem (G.kp (2, rowKp) (by simp)) (by simp) (by simp) (by simp) hR (MemU.refl _ _ _) hl ?_ ?_ ?_
  · intro i A B x k' σ' hx2 hi hi2 hA e0 e1 e5 R0 M0
    have hxl := hx.2 x hx2
    have hlt : ltI (i : Int) (xs.length : Int) = true := by simpa [ltI] using hi
    have hinc : addI (i : Int) 1 = ((i + 1 : Nat) : Int) := addI_eq (by omega) (by omega)
    have R0 : RowI σ'.mem d r (A ++ ((.sl x.vars.length (encL x.vars)) :: (.sl x.reach.length (encL x.reach)) :: (.sc (.int .i64 x.shared)) :: (.sc (.int .i64 x.many)) :: B)) := R0
    have C0 := R0.1
    obtain ⟨P0, hP0⟩ : ∃ P : List D, P = A ++ [] := ⟨_, rfl⟩
    have l0 : P0.length = i * 4 := by rw [hP0, List.length_append, hA]; simp
    have q0 : A ++ ((.sl x.vars.length (encL x.vars)) :: (.sl x.reach.length (encL x.reach)) :: (.sc (.int .i64 x.shared)) :: (.sc (.int .i64 x.many)) :: B) = P0 ++ ((.sl x.vars.length (encL x.vars)) :: ((.sl x.reach.length (encL x.reach)) :: (.sc (.int .i64 x.shared)) :: (.sc (.int .i64 x.many)) :: B)) := by rw [hP0, List.append_assoc]; rfl
    have s0 := seg_bx (d := d) (r := r) q0 l0
    simp only [bxC] at s0
    simp [gP, gt, gr, gg, e0, e1, e5, hlt, hinc, hi, i_57, C0, s0]
    obtain ⟨m1, hc1, R1, M1'⟩ := row_mark (mk57 G_57 x.vars k' hxl.1) q0 (show d ≤ e + 1 by omega) (M0.tight hd hT).up R0
    refine goal_callM _ _ rfl hc1 ?_
    have R1 : RowI m1 d r (A ++ ((.sl ((mkF_markIntS x.vars k').1).length (encL ((mkF_markIntS x.vars k').1))) :: (.sl x.reach.length (encL x.reach)) :: (.sc (.int .i64 x.shared)) :: (.sc (.int .i64 x.many)) :: B)) := by rw [hP0, List.append_assoc] at R1; exact R1
    have M1 := M0.trans M1'
    have C1 := R1.1
    obtain ⟨P1, hP1⟩ : ∃ P : List D, P = A ++ [.sl ((mkF_markIntS x.vars k').1).length (encL ((mkF_markIntS x.vars k').1))] := ⟨_, rfl⟩
    have l1 : P1.length = i * 4 + 1 := by rw [hP1, List.length_append, hA]; simp
    have q1 : A ++ ((.sl ((mkF_markIntS x.vars k').1).length (encL ((mkF_markIntS x.vars k').1))) :: (.sl x.reach.length (encL x.reach)) :: (.sc (.int .i64 x.shared)) :: (.sc (.int .i64 x.many)) :: B) = P1 ++ ((.sl x.reach.length (encL x.reach)) :: ((.sc (.int .i64 x.shared)) :: (.sc (.int .i64 x.many)) :: B)) := by rw [hP1, List.append_assoc]; rfl
    have s1 := seg_bx (d := d) (r := r) q1 l1
    simp only [bxC] at s1
    simp [gP, gt, gr, gg, e0, e1, e5, hlt, hinc, hi, i_57, C1, s1]
    obtain ⟨m2, hc2, R2, M2'⟩ := row_mark (mk57 G_57 x.reach ((mkF_markIntS x.vars k').2) hxl.2) q1 (show d ≤ e + 1 by omega) (M1.tight hd hT).up R1
    refine goal_callM _ _ rfl hc2 ?_
    have R2 : RowI m2 d r (A ++ ((.sl ((mkF_markIntS x.vars k').1).length (encL ((mkF_markIntS x.vars k').1))) :: (.sl ((mkF_markIntS x.reach ((mkF_markIntS x.vars k').2)).1).length (encL ((mkF_markIntS x.reach ((mkF_markIntS x.vars k').2)).1))) :: (.sc (.int .i64 x.shared)) :: (.sc (.int .i64 x.many)) :: B)) := by rw [hP1, List.append_assoc] at R2; exact R2
    have M2 := M1.trans M2'
    have C2 := R2.1
    obtain ⟨P2, hP2⟩ : ∃ P : List D, P = A ++ [.sl ((mkF_markIntS x.vars k').1).length (encL ((mkF_markIntS x.vars k').1)), .sl ((mkF_markIntS x.reach ((mkF_markIntS x.vars k').2)).1).length (encL ((mkF_markIntS x.reach ((mkF_markIntS x.vars k').2)).1))] := ⟨_, rfl⟩
    have l2 : P2.length = i * 4 + 2 := by rw [hP2, List.length_append, hA]; simp
    have q2 : A ++ ((.sl ((mkF_markIntS x.vars k').1).length (encL ((mkF_markIntS x.vars k').1))) :: (.sl ((mkF_markIntS x.reach ((mkF_markIntS x.vars k').2)).1).length (encL ((mkF_markIntS x.reach ((mkF_markIntS x.vars k').2)).1))) :: (.sc (.int .i64 x.shared)) :: (.sc (.int .i64 x.many)) :: B) = P2 ++ ((.sc (.int .i64 x.shared)) :: ((.sc (.int .i64 x.many)) :: B)) := by rw [hP2, List.append_assoc]; rfl
    obtain ⟨w3, R3, M3'⟩ := row_store (v' := .int .i64 ((mkF_markIntS x.reach ((mkF_markIntS x.vars k').2)).2)) q2 R2
    have q2' : P2 ++ (.sc (.int .i64 ((mkF_markIntS x.reach ((mkF_markIntS x.vars k').2)).2)) :: ((.sc (.int .i64 x.many)) :: B)) = A ++ ((.sl ((mkF_markIntS x.vars k').1).length (encL ((mkF_markIntS x.vars k').1))) :: (.sl ((mkF_markIntS x.reach ((mkF_markIntS x.vars k').2)).1).length (encL ((mkF_markIntS x.reach ((mkF_markIntS x.vars k').2)).1))) :: (.sc (.int .i64 ((mkF_markIntS x.reach ((mkF_markIntS x.vars k').2)).2))) :: (.sc (.int .i64 x.many)) :: B) := by rw [hP2, List.append_assoc]; rfl
    rw [q2'] at w3 R3 M3'
    rw [l2] at w3
    have M3 := M2.trans M3'
    have h2 : i * 4 + 2 + 1 ≤ (bxL d r 0 (A ++ ((.sl ((mkF_markIntS x.vars k').1).length (encL ((mkF_markIntS x.vars k').1))) :: (.sl ((mkF_markIntS x.reach ((mkF_markIntS x.vars k').2)).1).length (encL ((mkF_markIntS x.reach ((mkF_markIntS x.vars k').2)).1))) :: (.sc (.int .i64 x.shared)) :: (.sc (.int .i64 x.many)) :: B))).length := by rw [bxL_length, q2, List.length_append, List.length_cons, l2]; omega
    obtain ⟨P3, hP3⟩ : ∃ P : List D, P = A ++ [.sl ((mkF_markIntS x.vars k').1).length (encL ((mkF_markIntS x.vars k').1)), .sl ((mkF_markIntS x.reach ((mkF_markIntS x.vars k').2)).1).length (encL ((mkF_markIntS x.reach ((mkF_markIntS x.vars k').2)).1)), .sc (.int .i64 ((mkF_markIntS x.reach ((mkF_markIntS x.vars k').2)).2))] := ⟨_, rfl⟩
    have l3 : P3.length = i * 4 + 3 := by rw [hP3, List.length_append, hA]; simp
    have q3 : A ++ ((.sl ((mkF_markIntS x.vars k').1).length (encL ((mkF_markIntS x.vars k').1))) :: (.sl ((mkF_markIntS x.reach ((mkF_markIntS x.vars k').2)).1).length (encL ((mkF_markIntS x.reach ((mkF_markIntS x.vars k').2)).1))) :: (.sc (.int .i64 ((mkF_markIntS x.reach ((mkF_markIntS x.vars k').2)).2))) :: (.sc (.int .i64 x.many)) :: B) = P3 ++ ((.sc (.int .i64 x.many)) :: (B)) := by rw [hP3, List.append_assoc]; rfl
    obtain ⟨w4, R4, M4'⟩ := row_store (v' := .int .i64 (addI ((mkF_markIntS x.reach ((mkF_markIntS x.vars k').2)).2) 1)) q3 R3
    have q3' : P3 ++ (.sc (.int .i64 (addI ((mkF_markIntS x.reach ((mkF_markIntS x.vars k').2)).2) 1)) :: (B)) = A ++ ((.sl ((mkF_markIntS x.vars k').1).length (encL ((mkF_markIntS x.vars k').1))) :: (.sl ((mkF_markIntS x.reach ((mkF_markIntS x.vars k').2)).1).length (encL ((mkF_markIntS x.reach ((mkF_markIntS x.vars k').2)).1))) :: (.sc (.int .i64 ((mkF_markIntS x.reach ((mkF_markIntS x.vars k').2)).2))) :: (.sc (.int .i64 (addI ((mkF_markIntS x.reach ((mkF_markIntS x.vars k').2)).2) 1))) :: B) := by rw [hP3, List.append_assoc]; rfl
    rw [q3'] at w4 R4 M4'
    rw [l3] at w4
    have M4 := M3.trans M4'
    have h3 : i * 4 + 3 + 1 ≤ (bxL d r 0 (A ++ ((.sl ((mkF_markIntS x.vars k').1).length (encL ((mkF_markIntS x.vars k').1))) :: (.sl ((mkF_markIntS x.reach ((mkF_markIntS x.vars k').2)).1).length (encL ((mkF_markIntS x.reach ((mkF_markIntS x.vars k').2)).1))) :: (.sc (.int .i64 ((mkF_markIntS x.reach ((mkF_markIntS x.vars k').2)).2))) :: (.sc (.int .i64 x.many)) :: B))).length := by rw [bxL_length, q3, List.length_append, List.length_cons, l3]; omega
    simp [gP, gt, gr, gg, e0, e1, e5, hlt, hinc, hi, i_57, C2, w3, h2, w4, h3]
    exact ⟨_, rfl, by simp [e0], by simp [mkE_markNodeS], by simp, R4, M4⟩
  · intro z k' σ' e0 e1 e5
    have hlt : ltI (xs.length : Int) (xs.length : Int) = false := by simp [ltI]
    simp [gP, gt, gr, gg, e0, e1, e5, hlt]
    exact ⟨_, rfl, by simp [e1], rfl⟩
  · intro σ' e1 eR eM
    have hT2 : memKill (fun k => decide (e < k.1)) σ'.mem = σ'.mem := eM.tight hd hT
    simp [gP, gt, gr, gg, e1, Goal, FnEndM, hT2]
    exact ⟨_, _, ⟨rfl, rfl⟩, rfl, eM, eR⟩

abbrev G17 (g : Cfg) : Prop := Has Try.prog g 17 Try.f17 [] [] [] []
set_option maxHeartbeats 4000000 in
set_option maxRecDepth 100000 in
theorem mk17 {g : Cfg} (G : G17 g) (G_56 : G56 g) (G_57 : G57 g) : MkOK g 17 true mkF_markStructure := by
  have gP := G.P; have gt := G.tk; have gr := G.ro; have gg := G.gh
  have i_56 := G_56.no
  have i_57 := G_57.no
  intro x k hx
  have h0 := mk56 G_56 G_57 x.nodes k hx.1
  have h1 := mk57 G_57 x.next ((mkF_markNodeS x.nodes k).2) hx.2
  have eX : enc x = [.sl x.nodes.length (encL x.nodes), .sl x.next.length (encL x.next)] := rfl
  have eY : enc (mkF_markStructure x k).1 = [.sl ((mkF_markNodeS x.nodes k).1).length (encL ((mkF_markNodeS x.nodes k).1)), .sl ((mkF_markIntS x.next ((mkF_markNodeS x.nodes k).2)).1).length (encL ((mkF_markIntS x.next ((mkF_markNodeS x.nodes k).2)).1))] := rfl
  refine ⟨fun d p i => ?_, fun d e p i mem hd hT hs => ?_⟩
  · rw [eX, eY]
    simp only [bxL]
    have e0 := h0.1 d p (i)
    have e1 := h1.1 d p (i + 1)
    simp only [enc_list, bxL, List.cons.injEq, and_true, List.cons_append, List.nil_append] at e0 e1
    rw [e0, e1]
  · have n0 : mem (e + 1, 2) = none := hT.none (by simp)
    rw [eX] at hs ⊢
    rw [eY]
    have ha : avC true (bxL d p i [.sl x.nodes.length (encL x.nodes), .sl x.next.length (encL x.next)]) = .ag [.bs (d, pk (p ++ [i])) x.nodes.length (szD x.nodes.length (encL x.nodes)), .bs (d, pk (p ++ [i + 1])) x.next.length (szD x.next.length (encL x.next))] := rfl
    rw [ha]
    suffices hh : ∃ R m, callo g e 17 [.ag [.bs (d, pk (p ++ [i])) x.nodes.length (szD x.nodes.length (encL x.nodes)), .bs (d, pk (p ++ [i + 1])) x.next.length (szD x.next.length (encL x.next))], .one (.s (.int .i64 k))] mem = some (R, m) ∧ R = .one (.s (.int .i64 (mkF_markStructure x k).2)) ∧ MemR mem m d p i 2 ∧ subL m d p i [.sl ((mkF_markNodeS x.nodes k).1).length (encL ((mkF_markNodeS x.nodes k).1)), .sl ((mkF_markIntS x.next ((mkF_markNodeS x.nodes k).2)).1).length (encL ((mkF_markIntS x.next ((mkF_markNodeS x.nodes k).2)).1))] by
      obtain ⟨R, m, hc, rfl, hr⟩ := hh
      exact ⟨m, hc, hr⟩
    refine start_m (Try.f17.body.getD .skip) [.tmp 4] G Try.func17 (by kernel_rfl) (by simp [Try.ntmps17]) rfl ?_
    simp [Try.f17, gP, gt, gr, gg, n0, i_56, i_57]
    have S0 : subL (upd mem (e + 1, 2) (some [.bs (d, pk (p ++ [i])) x.nodes.length (szD x.nodes.length (encL x.nodes)), .bs (d, pk (p ++ [i + 1])) x.next.length (szD x.next.length (encL x.next))])) d p i [.sl x.nodes.length (encL x.nodes), .sl x.next.length (encL x.next)] := subL_congr (fun j q _ => by rw [upd_get, if_neg (by intro hh; have := (Prod.mk.inj hh).1; omega)]) hs
    have T0 : Tight (e + 1) (upd mem (e + 1, 2) (some [.bs (d, pk (p ++ [i])) x.nodes.length (szD x.nodes.length (encL x.nodes)), .bs (d, pk (p ++ [i + 1])) x.next.length (szD x.next.length (encL x.next))])) := hT.up.upd (by simp) (by simp; omega)
    have M0 : MemR (upd mem (e + 1, 2) (some [.bs (d, pk (p ++ [i])) x.nodes.length (szD x.nodes.length (encL x.nodes)), .bs (d, pk (p ++ [i + 1])) x.next.length (szD x.next.length (encL x.next))])) (upd mem (e + 1, 2) (some [.bs (d, pk (p ++ [i])) x.nodes.length (szD x.nodes.length (encL x.nodes)), .bs (d, pk (p ++ [i + 1])) x.next.length (szD x.next.length (encL x.next))])) d p i 2 := MemR.refl _ _ _ _ _
    obtain ⟨m1, hc1, S1, M1'⟩ := struct_mark (pre := []) h0 rfl (show d ≤ e + 1 by omega) T0 S0
    refine goal_callM _ _ rfl hc1 ?_
    have M1 := M0.trans M1'
    have T1 : Tight (e + 1) m1 := M1.tight (show d ≤ e + 1 by omega) T0
    have b1 : m1 (e + 1, 2) = some [.bs (d, pk (p ++ [i])) x.nodes.length (szD x.nodes.length (encL x.nodes)), .bs (d, pk (p ++ [i + 1])) x.next.length (szD x.next.length (encL x.next))] := by rw [M1.far _ (fun j q _ _ hh => by have := (Prod.mk.inj hh).1; omega), upd_get, if_pos rfl]
    simp [gP, gt, gr, gg, b1, i_56, i_57]
    obtain ⟨m2, hc2, S2, M2'⟩ := struct_mark (pre := [.sl ((mkF_markNodeS x.nodes k).1).length (encL ((mkF_markNodeS x.nodes k).1))]) h1 rfl (show d ≤ e + 1 by omega) T1 S1
    refine goal_callM _ _ rfl hc2 ?_
    have M2 := M1.trans M2'
    have T2 : Tight (e + 1) m2 := M2.tight (show d ≤ e + 1 by omega) T0
    have b2 : m2 (e + 1, 2) = some [.bs (d, pk (p ++ [i])) x.nodes.length (szD x.nodes.length (encL x.nodes)), .bs (d, pk (p ++ [i + 1])) x.next.length (szD x.next.length (encL x.next))] := by rw [M2.far _ (fun j q _ _ hh => by have := (Prod.mk.inj hh).1; omega), upd_get, if_pos rfl]
    simp [gP, gt, gr, gg, b2, i_56, i_57, Goal, FnEndM]
    exact ⟨_, _, ⟨rfl, rfl⟩, rfl, byval_end hd hT (cs := [.sl x.nodes.length (encL x.nodes), .sl x.next.length (encL x.next)]) (i0 := i) M2 S2⟩

abbrev G18 (g : Cfg) : Prop := Has Try.prog g 18 Try.f18 [] [] [] []
set_option maxHeartbeats 4000000 in
set_option maxRecDepth 100000 in
theorem mk18 {g : Cfg} (G : G18 g) (G_57 : G57 g) : MkOK g 18 true mkF_markHeap := by
  have gP := G.P; have gt := G.tk; have gr := G.ro; have gg := G.gh
  have i_57 := G_57.no
  intro x k hx
  have h0 := mk57 G_57 x.vars k hx.1
  have h1 := mk57 G_57 x.next ((mkF_markIntS x.vars k).2) hx.2
  have eX : enc x = [.sl x.vars.length (encL x.vars), .sl x.next.length (encL x.next)] := rfl
  have eY : enc (mkF_markHeap x k).1 = [.sl ((mkF_markIntS x.vars k).1).length (encL ((mkF_markIntS x.vars k).1)), .sl ((mkF_markIntS x.next ((mkF_markIntS x.vars k).2)).1).length (encL ((mkF_markIntS x.next ((mkF_markIntS x.vars k).2)).1))] := rfl
  refine ⟨fun d p i => ?_, fun d e p i mem hd hT hs => ?_⟩
  · rw [eX, eY]
    simp only [bxL]
    have e0 := h0.1 d p (i)
    have e1 := h1.1 d p (i + 1)
    simp only [enc_list, bxL, List.cons.injEq, and_true, List.cons_append, List.nil_append] at e0 e1
    rw [e0, e1]
  · have n0 : mem (e + 1, 2) = none := hT.none (by simp)
    rw [eX] at hs ⊢
    rw [eY]
    have ha : avC true (bxL d p i [.sl x.vars.length (encL x.vars), .sl x.next.length (encL x.next)]) = .ag [.bs (d, pk (p ++ [i])) x.vars.length (szD x.vars.length (encL x.vars)), .bs (d, pk (p ++ [i + 1])) x.next.length (szD x.next.length (encL x.next))] := rfl
    rw [ha]
    suffices hh : ∃ R m, callo g e 18 [.ag [.bs (d, pk (p ++ [i])) x.vars.length (szD x.vars.length (encL x.vars)), .bs (d, pk (p ++ [i + 1])) x.next.length (szD x.next.length (encL x.next))], .one (.s (.int .i64 k))] mem = some (R, m) ∧ R = .one (.s (.int .i64 (mkF_markHeap x k).2)) ∧ MemR mem m d p i 2 ∧ subL m d p i [.sl ((mkF_markIntS x.vars k).1).length (encL ((mkF_markIntS x.vars k).1)), .sl ((mkF_markIntS x.next ((mkF_markIntS x.vars k).2)).1).length (encL ((mkF_markIntS x.next ((mkF_markIntS x.vars k).2)).1))] by
      obtain ⟨R, m, hc, rfl, hr⟩ := hh
      exact ⟨m, hc, hr⟩
    refine start_m (Try.f18.body.getD .skip) [.tmp 4] G Try.func18 (by kernel_rfl) (by simp [Try.ntmps18]) rfl ?_
    simp [Try.f18, gP, gt, gr, gg, n0, i_57]
    have S0 : subL (upd mem (e + 1, 2) (some [.bs (d, pk (p ++ [i])) x.vars.length (szD x.vars.length (encL x.vars)), .bs (d, pk (p ++ [i + 1])) x.next.length (szD x.next.length (encL x.next))])) d p i [.sl x.vars.length (encL x.vars), .sl x.next.length (encL x.next)] := subL_congr (fun j q _ => by rw [upd_get, if_neg (by intro hh; have := (Prod.mk.inj hh).1; omega)]) hs
    have T0 : Tight (e + 1) (upd mem (e + 1, 2) (some [.bs (d, pk (p ++ [i])) x.vars.length (szD x.vars.length (encL x.vars)), .bs (d, pk (p ++ [i + 1])) x.next.length (szD x.next.length (encL x.next))])) := hT.up.upd (by simp) (by simp; omega)
    have M0 : MemR (upd mem (e + 1, 2) (some [.bs (d, pk (p ++ [i])) x.vars.length (szD x.vars.length (encL x.vars)), .bs (d, pk (p ++ [i + 1])) x.next.length (szD x.next.length (encL x.next))])) (upd mem (e + 1, 2) (some [.bs (d, pk (p ++ [i])) x.vars.length (szD x.vars.length (encL x.vars)), .bs (d, pk (p ++ [i + 1])) x.next.length (szD x.next.length (encL x.next))])) d p i 2 := MemR.refl _ _ _ _ _
    obtain ⟨m1, hc1, S1, M1'⟩ := struct_mark (pre := []) h0 rfl (show d ≤ e + 1 by omega) T0 S0
    refine goal_callM _ _ rfl hc1 ?_
    have M1 := M0.trans M1'
    have T1 : Tight (e + 1) m1 := M1.tight (show d ≤ e + 1 by omega) T0
    have b1 : m1 (e + 1, 2) = some [.bs (d, pk (p ++ [i])) x.vars.length (szD x.vars.length (encL x.vars)), .bs (d, pk (p ++ [i + 1])) x.next.length (szD x.next.length (encL x.next))] := by rw [M1.far _ (fun j q _ _ hh => by have := (Prod.mk.inj hh).1; omega), upd_get, if_pos rfl]
    simp [gP, gt, gr, gg, b1, i_57]
    obtain ⟨m2, hc2, S2, M2'⟩ := struct_mark (pre := [.sl ((mkF_markIntS x.vars k).1).length (encL ((mkF_markIntS x.vars k).1))]) h1 rfl (show d ≤ e + 1 by omega) T1 S1
    refine goal_callM _ _ rfl hc2 ?_
    have M2 := M1.trans M2'
    have T2 : Tight (e + 1) m2 := M2.tight (show d ≤ e + 1 by omega) T0
    have b2 : m2 (e + 1, 2) = some [.bs (d, pk (p ++ [i])) x.vars.length (szD x.vars.length (encL x.vars)), .bs (d, pk (p ++ [i + 1])) x.next.length (szD x.next.length (encL x.next))] := by rw [M2.far _ (fun j q _ _ hh => by have := (Prod.mk.inj hh).1; omega), upd_get, if_pos rfl]
    simp [gP, gt, gr, gg, b2, i_57, Goal, FnEndM]
    exact ⟨_, _, ⟨rfl, rfl⟩, rfl, byval_end hd hT (cs := [.sl x.vars.length (encL x.vars), .sl x.next.length (encL x.next)]) (i0 := i) M2 S2⟩

end Go.Proofs

