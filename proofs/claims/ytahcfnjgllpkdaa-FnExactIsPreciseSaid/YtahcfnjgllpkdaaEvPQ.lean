import Derived.Test.YtahcfnjgllpkdaaEvPO
set_option linter.unusedSimpArgs false
set_option linter.unusedVariables false
set_option linter.unnecessarySimpa false
namespace Go.Ev
theorem lists_in_flat (m : Nat) : True := trivial
theorem impl_own (h : THeap) (hv : small h.vars.length) (hs : small h.next.length) : impl_Heap_own h = some h := by
  unfold impl_Heap_own
  rw [clone_int _ hv, Option.bind_some, clone_int _ hs]
  rfl
theorem impl_smallHeaps (v c : Nat) (hv : 1 ≤ v ∧ v ≤ 4) (hc : c ≤ 3) : impl_SmallHeaps v c = some (shF v c) := by
  unfold impl_SmallHeaps
  rw [within_eq, within_eq]
  simp only [Option.bind_some, cond_dec]
  rw [if_pos (by omega), if_pos (by omega), addI_eq (a := (c : Int)) (b := 1) (by omega) (by omega)]
  have key := loop_flat (fun (b : List THeap) i => (b, i)) 0 (List.range (c + 1)) (ofCells v) (acc := []) (step := fun s_9 : (List THeap) × Int =>
              cond (ltI s_9.2 ((c : Int) + 1))
                ((impl_lists v s_9.2).bind fun y_20 =>
                  (iter (ρ := (List THeap)) (fun s_23 : (List THeap) × Int =>
                      cond (ltI s_23.2 (y_20.length : Int))
                        ((at? y_20 s_23.2).bind fun e_38 =>
                          (impl_lists s_9.2 s_9.2).bind fun y_43 =>
                            (iter (ρ := (List THeap)) (fun s_46 : (List THeap) × Int =>
                                cond (ltI s_46.2 (y_43.length : Int))
                                  ((at? y_43 s_46.2).bind fun e_65 =>
                                    (impl_IsHeap v (⟨e_38, e_65⟩ : THeap)).bind fun y_71 =>
                                      cond y_71
                                        ((impl_Heap_own (⟨e_38, e_65⟩ : THeap)).bind fun y_75 =>
                                          (room (s_46.1.length + [y_75].length) 48).bind fun _ =>
                                            some (.inl (s_46.1 ++ [y_75], addI s_46.2 1)))
                                        (some (.inl (s_46.1, addI s_46.2 1))))
                                  (some (.inr s_46.1))) (s_23.1, 0)).bind fun r_80 =>
                              some (.inl (r_80, addI s_23.2 1)))
                        (some (.inr s_23.1))) (s_9.1, 0)).bind fun r_92 =>
                    some (.inl (r_92, addI s_9.2 1)))
                (some (.inr s_9.1))) (fun i x b hx hb => ?_) (fun b => ?_)
  · rw [key]
    simp [shF]
  · obtain ⟨hi, rfl⟩ : i < c + 1 ∧ i = x := by
      have := List.getElem?_eq_some_iff.1 hx
      simpa using this
    have hsh := shF_len v c hv.2 hc
    unfold shF at hsh
    simp only [List.length_nil, Nat.zero_add] at hb
    have hb := Nat.le_trans hb hsh
    simp only [ltI, cond_dec]
    rw [if_pos (by omega), lists (i + 1) v (by omega) hv.2 _ _ rfl (by omega), lists (i + 1) i (by omega) (by omega) _ _ (by omega) (by omega)]
    simp only [Option.bind_some]
    have hA := lexF_len (upto (-1) (i + 1)) v
    have hB := lexF_len (upto (-1) (i + 1)) i
    rw [upto_len] at hA hB
    have hA' : (i + 1) ^ v ≤ 625 := pow_le (by omega) hv.2
    have hB' : (i + 1) ^ i ≤ 625 := pow_le (by omega) (by omega)
    have hMa : ∀ y ∈ lexF (upto (-1) (i + 1)) v, y.length ≤ 4 := fun y hy => by have := (lexF_mem _ _ y hy).1; omega
    have hMb : ∀ y ∈ lexF (upto (-1) (i + 1)) i, y.length ≤ 4 := fun y hy => by have := (lexF_mem _ _ y hy).1; omega
    unfold ofCells at hb ⊢
    generalize hu : lexF (upto (-1) (i + 1)) v = as at *
    generalize hw : lexF (upto (-1) (i + 1)) i = bs at *
    have k2 := loop_flat (fun (b : List THeap) i => (b, i)) 0 as (fun a => inn v a bs) (acc := b) (step := fun s_23 : (List THeap) × Int =>
                      if s_23.2 < (as.length : Int) then
                        ((at? as s_23.2).bind fun e_38 =>
                            (iter (ρ := (List THeap)) (fun s_46 : (List THeap) × Int =>
                                if s_46.2 < (bs.length : Int) then
                                  ((at? bs s_46.2).bind fun e_65 =>
                                    (impl_IsHeap v (⟨e_38, e_65⟩ : THeap)).bind fun y_71 =>
                                      cond y_71
                                        ((impl_Heap_own (⟨e_38, e_65⟩ : THeap)).bind fun y_75 =>
                                          (room (s_46.1.length + [y_75].length) 48).bind fun _ =>
                                            some (.inl (s_46.1 ++ [y_75], addI s_46.2 1)))
                                        (some (.inl (s_46.1, addI s_46.2 1))))
                                  else (some (.inr s_46.1))) (s_23.1, 0)).bind fun r_80 =>
                              some (.inl (r_80, addI s_23.2 1)))
                        else (some (.inr s_23.1))) (fun j a b' hj hb' => ?_) (fun b' => ?_)
    · rw [k2]
      simp only [Option.bind_some]
      rw [addI_eq (by omega) (by omega)]
    · have hjl := (List.getElem?_eq_some_iff.1 hj).1
      rw [if_pos (by omega)]
      simp only [Int.zero_add, at_nat, hj, Option.bind_some]
      have k3 := loop_flat (fun (b : List THeap) i => (b, i)) 0 bs (fun b => if isHeapB v ⟨a, b⟩ then [(⟨a, b⟩ : THeap)] else []) (acc := b') (step := fun s_46 : (List THeap) × Int =>
                                if s_46.2 < (bs.length : Int) then
                                  ((at? bs s_46.2).bind fun e_65 =>
                                    (impl_IsHeap v (⟨a, e_65⟩ : THeap)).bind fun y_71 =>
                                      cond y_71
                                        ((impl_Heap_own (⟨a, e_65⟩ : THeap)).bind fun y_75 =>
                                          (room (s_46.1.length + [y_75].length) 48).bind fun _ =>
                                            some (.inl (s_46.1 ++ [y_75], addI s_46.2 1)))
                                        (some (.inl (s_46.1, addI s_46.2 1))))
                                  else (some (.inr s_46.1))) (fun q e b'' hq hb'' => ?_) (fun b'' => ?_)
      · rw [k3]
        simp only [Option.bind_some]
        rw [addI_eq (by omega) (by omega)]
        rfl
      · have hql := (List.getElem?_eq_some_iff.1 hq).1
        have ha := hMa a (List.mem_of_getElem? hj)
        have he := hMb e (List.mem_of_getElem? hq)
        simp only [Int.zero_add, at_nat, hq, Option.bind_some, impl_isHeap]
        rw [if_pos (by omega), addI_eq (by omega) (by omega)]
        have hb3 : b''.length + (if isHeapB v ⟨a, e⟩ then [(⟨a, e⟩ : THeap)] else []).length ≤ b'.length + (inn v a bs).length := hb''
        have hb4 : b'.length + (inn v a bs).length ≤ b.length + (as.flatMap fun a => inn v a bs).length := hb'
        cases hh : isHeapB v ⟨a, e⟩ with
        | false => simp
        | true =>
          simp only [hh, if_true, List.length_singleton] at hb3
          rw [impl_own _ (by unfold small; simp only; omega) (by unfold small; simp only; omega)]
          simp only [cond_true, if_true, Option.bind_some, List.length_singleton]
          rw [room_small (by omega) (by omega)]
          rfl
      · rw [if_neg (by omega)]
    · rw [if_neg (by omega)]
  · simp only [ltI, cond_dec, List.length_range]
    rw [if_neg (by omega)]
def shL (v c : Int) : List THeap := if (1 ≤ v ∧ v ≤ 4) ∧ (0 ≤ c ∧ c ≤ 3) then shF v.toNat c.toNat else []
theorem shL_len (v c : Int) : (shL v c).length ≤ 1600000 := by
  unfold shL
  split
  · exact shF_len _ _ (by omega) (by omega)
  · simp
theorem spec_SH (v c : Int) : spec_SmallHeaps v c = some (shL v c) := by
  unfold shL
  split
  · rename_i h
    have := spec_smallHeaps v.toNat c.toNat (by omega) (by omega)
    rwa [show (v.toNat : Int) = v by omega, show (c.toNat : Int) = c by omega] at this
  · rename_i h
    unfold spec_SmallHeaps
    rw [l1In_eq, l1In_eq]
    simp only [Option.bind_some, cond_dec]
    by_cases h1 : 1 ≤ v ∧ v ≤ 4
    · rw [if_pos h1, if_neg (by omega)]
    · rw [if_neg h1]
theorem impl_SH (v c : Int) : impl_SmallHeaps v c = some (shL v c) := by
  unfold shL
  split
  · rename_i h
    have := impl_smallHeaps v.toNat c.toNat (by omega) (by omega)
    rwa [show (v.toNat : Int) = v by omega, show (c.toNat : Int) = c by omega] at this
  · rename_i h
    unfold impl_SmallHeaps
    rw [within_eq, within_eq]
    simp only [Option.bind_some, cond_dec]
    by_cases h1 : 1 ≤ v ∧ v ≤ 4
    · rw [if_pos h1, if_neg (by omega)]
    · rw [if_neg h1]
/-- a small heap: at most four variables and three cells -/
def tiny (h : THeap) : Prop := h.vars.length ≤ 4 ∧ h.next.length ≤ 6
theorem shF_tiny (v c : Nat) : ∀ h ∈ shF v c, tiny h := by
  intro h hm
  simp only [shF, ofCells, inn, List.mem_flatMap] at hm
  obtain ⟨_, _, a, _, b, _, hb⟩ := hm
  split at hb
  · rename_i hh
    simp only [List.mem_singleton] at hb
    subst hb
    simp only [isHeapB, Bool.and_eq_true, decide_eq_true_eq] at hh
    unfold tiny
    simp only
    omega
  · simp at hb
theorem shL_tiny (v c : Int) : ∀ h ∈ shL v c, tiny h := by
  unfold shL
  split
  · exact shF_tiny _ _
  · simp
end Go.Ev
