import Derived.Test.YtahcfnjgllpkdaaEvPN
set_option linter.unusedSimpArgs false
set_option linter.unusedVariables false
set_option linter.unnecessarySimpa false
namespace Go.Ev
/-! heaps -/
theorem cells_of {h : THeap} (hc : cellsB h = true) : Cells h.next := by
  simp only [cellsB, Bool.and_eq_true, List.all_eq_true] at hc
  intro x hx
  have := hc.2 x hx
  simp only [inH, decide_eq_true_eq] at this
  omega
theorem ordL_len (next vars : List Int) : (ordL next vars).length ≤ next.length := (ordSeen next vars [] ⟨by simp, by simp⟩).len
/-- the loop that looks whether a list tells its own places -/
def ownPlaces (xs : List Int) : Bool := (List.range xs.length).all fun i => decide (xs.getD i 0 = (i : Int))
theorem own_loop (xs : List Int) (hl : small xs.length) : Tot (iter (ρ := (Unit) ⊕ (Unit)) (fun s_18 : Int =>
                        cond (ltI s_18 (xs.length : Int))
                          ((at? xs s_18).bind fun e_29 =>
                            cond (neI e_29 s_18)
                              (some (.inr (.inl ())))
                              (some (.inl (addI s_18 1))))
                          (some (.inr (.inr ())))) 0) (fun r => r = if ownPlaces xs then .inr () else .inl ()) := by
  unfold small at hl
  refine Tot.loop (fun i s => s = (i : Int) ∧ ∀ j : Nat, j < i → xs.getD j 0 = (j : Int)) xs.length ⟨rfl, fun j hj => absurd hj (Nat.not_lt_zero _)⟩ fun i s hI hi => ?_
  obtain ⟨rfl, hI⟩ := hI
  simp only [ltI, neI, cond_dec, cond_ndec, at_nat]
  by_cases hlt : i < xs.length
  · have hg : xs.getD i 0 = xs[i] := by simp [List.getD, hlt]
    rw [if_pos (by omega), List.getElem?_eq_getElem hlt, addI_eq (by omega) (by omega)]
    simp only [Option.bind_some]
    by_cases hm : xs[i] = (i : Int)
    · rw [if_pos hm]
      refine Tot.ret ⟨hlt, by simp, fun j hj => ?_⟩
      by_cases hji : j = i
      · subst hji; rw [hg]; exact hm
      · exact hI j (by omega)
    · rw [if_neg hm]
      refine Tot.ret ?_
      have : ownPlaces xs = false := List.all_eq_false.2 ⟨i, List.mem_range.2 hlt, by simp only [hg, hm]; simp⟩
      simp only [Sum.elim_inr, this]
      rfl
  · rw [if_neg (by omega)]
    refine Tot.ret ?_
    have : ownPlaces xs = true := List.all_eq_true.2 fun j hj => by
      have := hI j (by have := List.mem_range.1 hj; omega)
      simpa using this
    simp only [Sum.elim_inr, this]
    rfl
def isHeapB (vars : Int) (h : THeap) : Bool := decide (1 ≤ vars ∧ vars ≤ 4) && decide ((h.vars.length : Int) = vars) && decide ((h.next.length : Int) ≤ 6) && cellsB h && !cyc h.next && (ownPlaces (ordL h.next h.vars) && decide ((ordL h.next h.vars).length = h.next.length))
theorem spec_isHeap (vars : Int) (h : THeap) : spec_IsHeap vars h = some (isHeapB vars h) := by
  unfold spec_IsHeap isHeapB
  rw [l1In_eq]
  simp only [Option.bind_some, cond_dec]
  by_cases h1 : 1 ≤ vars ∧ vars ≤ 4
  · rw [if_pos h1]
    simp only [h1, and_self, decide_true, Bool.true_and, neI, cond_ndec, ltI, cond_dec]
    by_cases h2 : (h.vars.length : Int) = vars
    · rw [if_pos h2]
      simp only [h2, decide_true, Bool.true_and]
      by_cases h3 : (h.next.length : Int) ≤ 6
      · rw [if_neg (by omega)]
        have hv : small h.vars.length := by unfold small; omega
        have hs : small h.next.length := by unfold small; omega
        simp only [h3, decide_true, Bool.true_and, l7Cells h hv hs, Option.bind_some]
        cases hc : cellsB h with
        | false => rfl
        | true =>
          simp only [cond_true, Bool.true_and, spec_acyclic h hs (cells_of hc), Option.bind_some]
          cases hy : cyc h.next with
          | true => rfl
          | false =>
            simp only [Bool.not_false, cond_true, Bool.true_and, l7Order h hv hs, Option.bind_some]
            have hol := ordL_len h.next h.vars
            obtain ⟨r, hr1, hr2⟩ := own_loop (ordL h.next h.vars) (by unfold small; omega)
            simp only [neI, ltI, cond_dec, cond_ndec] at hr1
            rw [hr1, hr2]
            cases ho : ownPlaces (ordL h.next h.vars) with
            | false => simp
            | true => simp [eqI]; omega
      · rw [if_pos (by omega)]
        simp [h3]
    · rw [if_neg h2]
      simp [h2]
  · rw [if_neg h1]
    simp [h1]
theorem impl_isHeap (vars : Int) (h : THeap) : impl_IsHeap vars h = some (isHeapB vars h) := by
  unfold impl_IsHeap isHeapB
  rw [within_eq]
  simp only [Option.bind_some, cond_dec]
  by_cases h1 : 1 ≤ vars ∧ vars ≤ 4
  · rw [if_pos h1]
    simp only [h1, and_self, decide_true, Bool.true_and, neI, cond_ndec, ltI, cond_dec]
    by_cases h2 : (h.vars.length : Int) = vars
    · rw [if_pos h2]
      simp only [h2, decide_true, Bool.true_and]
      by_cases h3 : (h.next.length : Int) ≤ 6
      · rw [if_neg (by omega)]
        have hv : small h.vars.length := by unfold small; omega
        have hs : small h.next.length := by unfold small; omega
        simp only [h3, decide_true, Bool.true_and, areCells h (by unfold small; simp only [List.length_append]; omega) hv hs, Option.bind_some]
        cases hc : cellsB h with
        | false => rfl
        | true =>
          simp only [cond_true, Bool.true_and, impl_cyclic h hs (cells_of hc), Option.bind_some]
          cases hy : cyc h.next with
          | true => rfl
          | false =>
            simp only [Bool.not_false, cond_false, Bool.true_and, met h hv hs, Option.bind_some]
            have hol := ordL_len h.next h.vars
            obtain ⟨r, hr1, hr2⟩ := own_loop (ordL h.next h.vars) (by unfold small; omega)
            simp only [neI, ltI, cond_dec, cond_ndec] at hr1
            rw [hr1, hr2]
            cases ho : ownPlaces (ordL h.next h.vars) with
            | false => simp
            | true => simp [eqI]; omega
      · rw [if_pos (by omega)]
        simp [h3]
    · rw [if_neg h2]
      simp [h2]
  · rw [if_neg h1]
    simp [h1]

/-! small heaps -/
def inn (vars : Int) (a : List Int) (bs : List (List Int)) : List THeap := bs.flatMap fun b => if isHeapB vars ⟨a, b⟩ then [⟨a, b⟩] else []
def ofCells (vars c : Nat) : List THeap := (lexF (upto (-1) (c + 1)) vars).flatMap fun a => inn vars a (lexF (upto (-1) (c + 1)) c)
def shF (vars cells : Nat) : List THeap := (List.range (cells + 1)).flatMap (ofCells vars)
theorem flatMap_bound {α β : Type} (xs : List α) (f : α → List β) (N : Nat) (h : ∀ x ∈ xs, (f x).length ≤ N) : (xs.flatMap f).length ≤ xs.length * N := by
  induction xs with
  | nil => simp
  | cons x xs ih =>
    have h1 := h x (List.mem_cons_self ..)
    have h2 := ih fun y hy => h y (List.mem_cons_of_mem _ hy)
    rw [List.flatMap_cons, List.length_append, List.length_cons, Nat.add_mul]
    omega
theorem inn_len (vars : Int) (a : List Int) (bs : List (List Int)) : (inn vars a bs).length ≤ bs.length := by
  have := flatMap_bound bs (fun b => if isHeapB vars ⟨a, b⟩ then [(⟨a, b⟩ : THeap)] else []) 1 fun x _ => by
    by_cases h : isHeapB vars ⟨a, x⟩ = true <;> simp [h]
  simpa [inn] using this
theorem ofCells_len (vars c : Nat) (hv : vars ≤ 4) (hc : c ≤ 3) : (ofCells vars c).length ≤ 400000 := by
  have h1 : (lexF (upto (-1) (c + 1)) vars).length ≤ 625 := by rw [lexF_len, upto_len]; exact pow_le (by omega) hv
  have h2 : (lexF (upto (-1) (c + 1)) c).length ≤ 625 := by rw [lexF_len, upto_len]; exact pow_le (by omega) (by omega)
  have h3 := flatMap_bound (lexF (upto (-1) (c + 1)) vars) (fun a => inn vars a (lexF (upto (-1) (c + 1)) c)) 625 fun x _ => Nat.le_trans (inn_len _ _ _) h2
  have h4 : (lexF (upto (-1) (c + 1)) vars).length * 625 ≤ 625 * 625 := Nat.mul_le_mul_right _ h1
  exact Nat.le_trans h3 (Nat.le_trans h4 (by decide))
theorem shF_len (vars cells : Nat) (hv : vars ≤ 4) (hc : cells ≤ 3) : (shF vars cells).length ≤ 1600000 := by
  have h := flatMap_bound (List.range (cells + 1)) (ofCells vars) 400000 fun x hx => ofCells_len vars x hv (by have := List.mem_range.1 hx; omega)
  simp only [List.length_range] at h
  exact Nat.le_trans h (by omega)
theorem upto_mem {lo : Int} : ∀ {n : Nat} {x : Int}, x ∈ upto lo n → lo ≤ x ∧ x < lo + n := by
  intro n
  induction n generalizing lo with
  | zero => intro x h; simp [upto] at h
  | succ n ih =>
    intro x h
    rcases List.mem_cons.1 h with rfl | h
    · omega
    · have := ih h
      omega
theorem clone_int (xs : List Int) (h : small xs.length) : slices_Clone_int xs = some xs := by
  unfold slices_Clone_int lib_Clone
  rw [room_small h (by omega)]
  rfl
theorem spec_smallHeaps (v c : Nat) (hv : 1 ≤ v ∧ v ≤ 4) (hc : c ≤ 3) : spec_SmallHeaps v c = some (shF v c) := by
  unfold spec_SmallHeaps
  rw [l1In_eq, l1In_eq]
  simp only [Option.bind_some, cond_dec]
  rw [if_pos (by omega), if_pos (by omega)]
  have key := loop_flat (fun (b : List THeap) i => (b, i)) 0 (List.range (c + 1)) (ofCells v) (acc := []) (step := fun s_9 : (List THeap) × Int =>
              cond (leI s_9.2 c)
                ((spec_l9Lists v (subI s_9.2 1)).bind fun y_20 =>
                  (spec_l9Lists s_9.2 (subI s_9.2 1)).bind fun y_23 =>
                    (iter (ρ := (List THeap)) (fun s_26 : (List THeap) × Int =>
                        cond (ltI s_26.2 (y_20.length : Int))
                          ((iter (ρ := (List THeap)) (fun s_40 : (List THeap) × Int =>
                              cond (ltI s_40.2 (y_23.length : Int))
                                ((at? y_20 s_26.2).bind fun e_55 =>
                                  (at? y_23 s_40.2).bind fun e_60 =>
                                    (spec_IsHeap v (⟨e_55, e_60⟩ : THeap)).bind fun y_66 =>
                                      cond y_66
                                        ((spec_l7Copy (⟨e_55, e_60⟩ : THeap)).bind fun y_70 =>
                                          (room (s_40.1.length + [y_70].length) 48).bind fun _ =>
                                            some (.inl (s_40.1 ++ [y_70], addI s_40.2 1)))
                                        (some (.inl (s_40.1, addI s_40.2 1))))
                                (some (.inr s_40.1))) (s_26.1, 0)).bind fun r_75 =>
                            some (.inl (r_75, addI s_26.2 1)))
                          (some (.inr s_26.1))) (s_9.1, 0)).bind fun r_86 =>
                      some (.inl (r_86, addI s_9.2 1)))
                (some (.inr s_9.1))) (fun i x b hx hb => ?_) (fun b => ?_)
  · rw [key]
    simp [shF]
  · obtain ⟨hi, rfl⟩ : i < c + 1 ∧ i = x := by
      have := List.getElem?_eq_some_iff.1 hx
      simpa using this
    have hsh := shF_len v c hv.2 hc
    unfold shF at hsh
    simp only [List.length_nil, Nat.zero_add] at hb
    have hb := Nat.le_trans hb hsh
    simp only [leI, cond_dec]
    rw [if_pos (by omega), l9Lists (i + 1) v (by omega) hv.2 _ _ rfl (by rw [subI_eq (by omega) (by omega)]; omega), l9Lists (i + 1) i (by omega) (by omega) _ _ (by omega) (by rw [subI_eq (by omega) (by omega)]; omega)]
    simp only [Option.bind_some]
    have hA := lexF_len (upto (-1) (i + 1)) v
    have hB := lexF_len (upto (-1) (i + 1)) i
    rw [upto_len] at hA hB
    have hA' : (i + 1) ^ v ≤ 625 := pow_le (by omega) hv.2
    have hB' : (i + 1) ^ i ≤ 625 := pow_le (by omega) (by omega)
    have hMa : ∀ y ∈ lexF (upto (-1) (i + 1)) v, y.length ≤ 4 := fun y hy => by have := (lexF_mem _ _ y hy).1; omega
    have hMb : ∀ y ∈ lexF (upto (-1) (i + 1)) i, y.length ≤ 4 := fun y hy => by have := (lexF_mem _ _ y hy).1; omega
    unfold ofCells at hb ⊢
    generalize hu : lexF (upto (-1) (i + 1)) v = as at *
    generalize hw : lexF (upto (-1) (i + 1)) i = bs at *
    have k2 := loop_flat (fun (b : List THeap) i => (b, i)) 0 as (fun a => inn v a bs) (acc := b) (step := fun s_26 : (List THeap) × Int =>
                        cond (ltI s_26.2 (as.length : Int))
                          ((iter (ρ := (List THeap)) (fun s_40 : (List THeap) × Int =>
                              cond (ltI s_40.2 (bs.length : Int))
                                ((at? as s_26.2).bind fun e_55 =>
                                  (at? bs s_40.2).bind fun e_60 =>
                                    (spec_IsHeap v (⟨e_55, e_60⟩ : THeap)).bind fun y_66 =>
                                      cond y_66
                                        ((spec_l7Copy (⟨e_55, e_60⟩ : THeap)).bind fun y_70 =>
                                          (room (s_40.1.length + [y_70].length) 48).bind fun _ =>
                                            some (.inl (s_40.1 ++ [y_70], addI s_40.2 1)))
                                        (some (.inl (s_40.1, addI s_40.2 1))))
                                (some (.inr s_40.1))) (s_26.1, 0)).bind fun r_75 =>
                            some (.inl (r_75, addI s_26.2 1)))
                          (some (.inr s_26.1))) (fun j a b' hj hb' => ?_) (fun b' => ?_)
    · rw [k2]
      simp only [Option.bind_some]
      rw [addI_eq (by omega) (by omega)]
    · have hjl := (List.getElem?_eq_some_iff.1 hj).1
      simp only [ltI, cond_dec]
      rw [if_pos (by omega)]
      have k3 := loop_flat (fun (b : List THeap) i => (b, i)) 0 bs (fun b => if isHeapB v ⟨a, b⟩ then [(⟨a, b⟩ : THeap)] else []) (acc := b') (step := fun s_40 : (List THeap) × Int =>
                              if s_40.2 < (bs.length : Int) then
                                ((at? as (0 + (j : Int))).bind fun e_55 =>
                                  (at? bs s_40.2).bind fun e_60 =>
                                    (spec_IsHeap v (⟨e_55, e_60⟩ : THeap)).bind fun y_66 =>
                                      cond y_66
                                        ((spec_l7Copy (⟨e_55, e_60⟩ : THeap)).bind fun y_70 =>
                                          (room (s_40.1.length + [y_70].length) 48).bind fun _ =>
                                            some (.inl (s_40.1 ++ [y_70], addI s_40.2 1)))
                                        (some (.inl (s_40.1, addI s_40.2 1))))
                                else (some (.inr s_40.1))) (fun q e b'' hq hb'' => ?_) (fun b'' => ?_)
      · rw [k3]
        simp only [Option.bind_some]
        rw [addI_eq (by omega) (by omega)]
        rfl
      · have hql := (List.getElem?_eq_some_iff.1 hq).1
        have ha := hMa a (List.mem_of_getElem? hj)
        have he := hMb e (List.mem_of_getElem? hq)
        simp only [Int.zero_add, at_nat, hj, hq, Option.bind_some, spec_isHeap]
        rw [if_pos (by omega), addI_eq (by omega) (by omega)]
        have hb3 : b''.length + (if isHeapB v ⟨a, e⟩ then [(⟨a, e⟩ : THeap)] else []).length ≤ b'.length + (inn v a bs).length := hb''
        have hb4 : b'.length + (inn v a bs).length ≤ b.length + (as.flatMap fun a => inn v a bs).length := hb'
        cases hh : isHeapB v ⟨a, e⟩ with
        | false => simp
        | true =>
          simp only [hh, if_true, List.length_singleton] at hb3
          unfold spec_l7Copy
          simp only [cond_true, if_true, List.length_nil, Nat.zero_add, List.length_singleton]
          rw [room_small (by omega) (by omega), Option.bind_some, room_small (by omega) (by omega), Option.bind_some, Option.bind_some, room_small (by omega) (by omega)]
          rfl
      · rw [if_neg (by omega)]
    · simp [ltI]
  · simp only [leI, cond_dec, List.length_range]
    rw [if_neg (by omega)]
end Go.Ev
