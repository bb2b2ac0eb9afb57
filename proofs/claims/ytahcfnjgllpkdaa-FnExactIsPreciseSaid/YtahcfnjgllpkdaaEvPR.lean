import Derived.Test.YtahcfnjgllpkdaaEvPQ
set_option linter.unusedSimpArgs false
set_option linter.unusedVariables false
set_option linter.unnecessarySimpa false
namespace Go.Ev
theorem take_snoc1 {α : Type} {xs : List α} {i : Nat} (h : i < xs.length) : xs.take (i + 1) = xs.take i ++ [xs[i]] := by simp
theorem Tot.flat {α γ σ : Type} (S : List γ → Int → σ) (lo : Int) (xs : List α) (g : α → List γ) {acc : List γ} {step : σ → Option (σ ⊕ List γ)} {s : σ} {Q : List γ → Prop} (hs : s = S acc lo) (hQ : Q (acc ++ xs.flatMap g))
    (h : ∀ (i : Nat) x b, xs[i]? = some x → b.length + (g x).length ≤ acc.length + (xs.flatMap g).length → Tot (step (S b (lo + i))) (· = .inl (S (b ++ g x) (lo + i + 1))))
    (he : ∀ b, Tot (step (S b (lo + xs.length))) (· = .inr b)) : Tot (iter step s) Q := by
  subst hs
  exact Tot.of (loop_flat S lo xs g (fun i x b hx hb => (h i x b hx hb).eq) fun b => (he b).eq) hQ
/-! the structure of a heap -/
def t3 (b : Bool) : Int := if b then 2 else 0
theorem l3Of_eq (b : Bool) : spec_l3Of b = some (t3 b) := by cases b <;> rfl
theorem truthOf_is (b : Bool) : impl_truthOf b = some (t3 b) := by cases b <;> rfl
def nodeOf (h : THeap) (i : Nat) : TNode := ⟨h.vars.map fun e => t3 (decide (e = (i : Int))), h.vars.map fun e => t3 (decide ((i : Int) ∈ folL h.next e)), t3 (decide (1 < ((posF (i : Int) 0 h.next).length : Int))), 0⟩
def arrowsOf (h : THeap) (i : Nat) : List Int := (List.range h.next.length).map fun j : Nat => t3 (decide (h.next.getD i 0 = (j : Int)))
def strOf (h : THeap) : TStructure :=
  if cellsB h then if h.next.length ≤ 10 then if 1 ≤ h.vars.length ∧ h.vars.length ≤ 4 then ⟨(List.range h.next.length).map (nodeOf h), (List.range h.next.length).flatMap (arrowsOf h)⟩ else ⟨[], []⟩ else ⟨[], []⟩ else ⟨[], []⟩
theorem arrowsOf_len (h : THeap) (i : Nat) : (arrowsOf h i).length = h.next.length := by simp [arrowsOf]
theorem flatMap_len {α β : Type} (xs : List α) (f : α → List β) (n : Nat) (h : ∀ x ∈ xs, (f x).length = n) : (xs.flatMap f).length = xs.length * n := by
  induction xs with
  | nil => simp
  | cons x xs ih =>
    rw [List.flatMap_cons, List.length_append, h x (List.mem_cons_self ..), ih fun y hy => h y (List.mem_cons_of_mem _ hy), List.length_cons, Nat.add_mul]
    omega
theorem arrows_len (h : THeap) (m : Nat) : ((List.range m).flatMap (arrowsOf h)).length = m * h.next.length := by
  have := flatMap_len (List.range m) (arrowsOf h) h.next.length fun x _ => arrowsOf_len h x
  simpa using this
theorem spec_structureOf (h : THeap) (hv : small h.vars.length) (hs : small h.next.length) : spec_StructureOf h = some (strOf h) := by
  unfold spec_StructureOf strOf
  simp only [l7Cells h hv hs, Option.bind_some, l1In_eq]
  cases hc : cellsB h with
  | false => rfl
  | true =>
    simp only [cond_true, if_true, ltI, cond_dec]
    by_cases h10 : h.next.length ≤ 10
    · rw [if_neg (by omega), if_pos h10]
      by_cases h4 : 1 ≤ h.vars.length ∧ h.vars.length ≤ 4
      · rw [if_pos (by omega), if_pos h4]
        refine Tot.eq (Tot.bind (P := (· = ((List.range h.next.length).map (nodeOf h), (List.range h.next.length).flatMap (arrowsOf h)))) (Tot.loop (fun i s => s = ((i : Int), (List.range i).map (nodeOf h), (List.range i).flatMap (arrowsOf h))) h.next.length rfl fun i s hI hi => ?_) fun r hr => by subst hr; exact Tot.ret rfl)
        subst hI
        by_cases hlt : i < h.next.length
        · simp only [if_pos (show (i : Int) < h.next.length by omega), positions h.next i hs, l3Of_eq, Option.bind_some]
          refine Tot.bind (P := (· = ((nodeOf h i).vars, (nodeOf h i).reach))) (Tot.loop (fun j s => s = ((j : Int), (h.vars.take j).map (fun e => t3 (decide (e = (i : Int)))), (h.vars.take j).map (fun e => t3 (decide ((i : Int) ∈ folL h.next e))))) h.vars.length (by simp) fun j s hJ hj => ?_) fun r hr => ?_
          · subst hJ
            by_cases hjl : j < h.vars.length
            · simp only [if_pos (show (j : Int) < h.vars.length by omega), at_nat, List.getElem?_eq_getElem hjl, Option.bind_some, spec_followed h hs, l7Has _ _ (small_fol hs _), List.length_map, List.length_take, List.length_singleton, eqI, l3Of_eq]
              rw [room_small (by omega) (by omega), Option.bind_some, Option.bind_some, addI_eq (by omega) (by omega)]
              exact Tot.ret ⟨hjl, by rw [take_snoc1 hjl]; simp only [List.map_append, List.map_cons, List.map_nil, Int.natCast_add, Int.cast_ofNat_Int]⟩
            · rw [if_neg (by simp only; omega)]
              have : j = h.vars.length := by omega
              subst this
              exact Tot.ret (by simp [nodeOf])
          · subst hr
            simp only [List.length_map, List.length_range, List.length_singleton]
            rw [room_small (by omega) (by omega), Option.bind_some]
            have hal := arrows_len h i
            have hal2 : i * h.next.length ≤ 10 * 10 := Nat.mul_le_mul (by omega) h10
            refine Tot.bind (P := (· = (List.range (i + 1)).flatMap (arrowsOf h))) (Tot.loop (fun j s => s = ((j : Int), (List.range i).flatMap (arrowsOf h) ++ (List.range j).map fun k : Nat => t3 (decide (h.next.getD i 0 = (k : Int))))) h.next.length (by simp) fun j s hJ hj => ?_) fun r hr => ?_
            · subst hJ
              by_cases hjl : j < h.next.length
              · have hg : h.next.getD i 0 = h.next[i] := by simp [List.getD, hlt]
                simp only [if_pos (show (j : Int) < h.next.length by omega), at_nat, List.getElem?_eq_getElem hlt, Option.bind_some, List.length_append, List.length_map, List.length_range, hal, List.length_singleton, eqI, l3Of_eq]
                rw [room_small (by omega) (by omega), Option.bind_some, addI_eq (by omega) (by omega)]
                exact Tot.ret ⟨hjl, by rw [List.range_succ, List.map_append, List.map_cons, List.map_nil, hg, List.append_assoc]; rfl⟩
              · rw [if_neg (by simp only; omega)]
                have : j = h.next.length := by omega
                subst this
                exact Tot.ret (by simp [List.range_succ, arrowsOf])
            · subst hr
              rw [addI_eq (by omega) (by omega)]
              exact Tot.ret ⟨hlt, by simp [List.range_succ, nodeOf]⟩
        · rw [if_neg (by simp only; omega)]
          have : i = h.next.length := by omega
          subst this
          exact Tot.ret rfl
      · rw [if_neg (by omega), if_neg h4]
    · rw [if_pos (by omega), if_neg h10]
theorem impl_structureOf (h : THeap) (hv : small h.vars.length) (hs : small h.next.length) (hvs : small (h.vars ++ h.next).length) : impl_StructureOf h = some (strOf h) := by
  unfold impl_StructureOf strOf
  simp only [areCells h hvs hv hs, Option.bind_some, within_eq]
  cases hc : cellsB h with
  | false => rfl
  | true =>
    simp only [cond_true, if_true, ltI, cond_dec]
    by_cases h10 : h.next.length ≤ 10
    · rw [if_neg (by omega), if_pos h10]
      by_cases h4 : 1 ≤ h.vars.length ∧ h.vars.length ≤ 4
      · rw [if_pos (by omega), if_pos h4]
        refine Tot.eq (Tot.bind (P := (· = ((List.range h.next.length).map (nodeOf h), (List.range h.next.length).flatMap (arrowsOf h)))) (Tot.loop (fun i s => s = ((i : Int), (List.range i).map (nodeOf h), (List.range i).flatMap (arrowsOf h))) h.next.length rfl fun i s hI hi => ?_) fun r hr => by subst hr; exact Tot.ret rfl)
        subst hI
        by_cases hlt : i < h.next.length
        · simp only [if_pos (show (i : Int) < h.next.length by omega), positions_eq, positions h.next i hs, truthOf_is, Option.bind_some]
          refine Tot.bind (P := (· = ((nodeOf h i).vars, (nodeOf h i).reach))) (Tot.loop (fun j s => s = ((j : Int), (h.vars.take j).map (fun e => t3 (decide (e = (i : Int)))), (h.vars.take j).map (fun e => t3 (decide ((i : Int) ∈ folL h.next e))))) h.vars.length (by simp) fun j s hJ hj => ?_) fun r hr => ?_
          · subst hJ
            by_cases hjl : j < h.vars.length
            · simp only [if_pos (show (j : Int) < h.vars.length by omega), at_nat, List.getElem?_eq_getElem hjl, Option.bind_some, impl_followed h hs, contains_int _ _ (small_fol hs _), List.length_map, List.length_take, List.length_singleton, eqI, truthOf_is]
              rw [room_small (by omega) (by omega), Option.bind_some, Option.bind_some, addI_eq (by omega) (by omega)]
              exact Tot.ret ⟨hjl, by rw [take_snoc1 hjl]; simp only [List.map_append, List.map_cons, List.map_nil, Int.natCast_add, Int.cast_ofNat_Int]⟩
            · rw [if_neg (by simp only; omega)]
              have : j = h.vars.length := by omega
              subst this
              exact Tot.ret (by simp [nodeOf])
          · subst hr
            simp only [List.length_map, List.length_range, List.length_singleton]
            rw [room_small (by omega) (by omega), Option.bind_some]
            have hal := arrows_len h i
            have hal2 : i * h.next.length ≤ 10 * 10 := Nat.mul_le_mul (by omega) h10
            refine Tot.bind (P := (· = (List.range (i + 1)).flatMap (arrowsOf h))) (Tot.loop (fun j s => s = ((j : Int), (List.range i).flatMap (arrowsOf h) ++ (List.range j).map fun k : Nat => t3 (decide (h.next.getD i 0 = (k : Int))))) h.next.length (by simp) fun j s hJ hj => ?_) fun r hr => ?_
            · subst hJ
              by_cases hjl : j < h.next.length
              · have hg : h.next.getD i 0 = h.next[i] := by simp [List.getD, hlt]
                simp only [if_pos (show (j : Int) < h.next.length by omega), at_nat, List.getElem?_eq_getElem hlt, Option.bind_some, List.length_append, List.length_map, List.length_range, hal, List.length_singleton, eqI, truthOf_is]
                rw [room_small (by omega) (by omega), Option.bind_some, addI_eq (by omega) (by omega)]
                exact Tot.ret ⟨hjl, by rw [List.range_succ, List.map_append, List.map_cons, List.map_nil, hg, List.append_assoc]; rfl⟩
              · rw [if_neg (by simp only; omega)]
                have : j = h.next.length := by omega
                subst this
                exact Tot.ret (by simp [List.range_succ, arrowsOf])
            · subst hr
              rw [addI_eq (by omega) (by omega)]
              exact Tot.ret ⟨hlt, by simp [List.range_succ, nodeOf]⟩
        · rw [if_neg (by simp only; omega)]
          have : i = h.next.length := by omega
          subst this
          exact Tot.ret rfl
      · rw [if_neg (by omega), if_neg h4]
    · rw [if_pos (by omega), if_neg h10]
theorem strOf_len (h : THeap) : (strOf h).nodes.length ≤ 10 := by
  unfold strOf
  split
  · split
    · split
      · simpa
      · simp
    · simp
  · simp
end Go.Ev
