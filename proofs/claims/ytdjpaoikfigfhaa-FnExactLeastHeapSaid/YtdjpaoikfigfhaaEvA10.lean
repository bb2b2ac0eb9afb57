import Derived.Test.YtdjpaoikfigfhaaEvA7
import Derived.Test.YtdjpaoikfigfhaaEvA9
set_option linter.unusedSimpArgs false
set_option linter.unusedVariables false
set_option linter.unnecessarySimpa false
namespace Go.Ev
def small (n : Nat) : Prop := n ≤ 4000000

theorem findE {α : Type} (p : α → Bool) : ∀ (xs : List α) (i : Nat),
    foldE (β := Unit) (ρ := Int ⊕ Unit) (fun _ i x => if p x then some (.inr (.inl (i : Int))) else some (.inl ())) (fun _ => some (.inr ())) () i xs =
      some (match xs.findIdx? p with | some j => .inl ((i + j : Nat) : Int) | none => .inr ())
  | [], i => rfl
  | x :: xs, i => by
    rw [foldE]
    by_cases h : p x = true
    · simp [h, List.findIdx?_cons]
    · simp only [h, if_false, Bool.false_eq_true]
      rw [findE p xs (i + 1), List.findIdx?_cons]
      simp only [h, if_false, Bool.false_eq_true]
      cases xs.findIdx? p with
      | none => rfl
      | some j => simp only [Option.map_some, Option.some.injEq, Sum.inl.injEq]; omega

theorem index_int (xs : List Int) (v : Int) (hl : small xs.length) : slices_Index_int xs v = some (match xs.findIdx? (fun x => decide (v = x)) with | some j => (j : Int) | none => -1) := by
  unfold slices_Index_int
  rw [iter_list xs (fun (_ : Unit) i => i) (fun _ i x => if decide (v = x) = true then some (.inr (.inl (i : Int))) else some (.inl ())) (fun _ => some (.inr ())) (fun b i x hx => ?_) (fun b => ?_) (), findE]
  · cases xs.findIdx? (fun x => decide (v = x)) with
    | none => rfl
    | some j => simp
  · have hlt := (List.getElem?_eq_some_iff.1 hx).1
    unfold small at hl
    rw [at_nat, hx, addI_eq (by omega) (by omega)]
    simp only [ltI, eqI, cond_dec, Option.bind_some]
    rw [if_pos (by omega)]
    by_cases h : v = x <;> simp [h]
  · simp [ltI]

theorem contains_int (xs : List Int) (v : Int) (hl : small xs.length) : slices_Contains_int xs v = some (decide (v ∈ xs)) := by
  unfold slices_Contains_int
  rw [index_int xs v hl]
  simp only [Option.bind_some, leI, Option.some.injEq]
  cases h : xs.findIdx? (fun x => decide (v = x)) with
  | none =>
    rw [List.findIdx?_eq_none_iff] at h
    have : v ∉ xs := fun hm => by simpa using h v hm
    simp [this]
  | some j =>
    rw [List.findIdx?_eq_some_iff_getElem] at h
    obtain ⟨hj, hp, _⟩ := h
    have : v ∈ xs := by rw [of_decide_eq_true hp]; exact List.getElem_mem hj
    simp [this]

theorem within_eq (n lo hi : Int) : impl_within n lo hi = some (decide (lo ≤ n ∧ n ≤ hi)) := by
  unfold impl_within
  by_cases h : lo ≤ n <;> simp [leI, ltI, h]
theorem l1In_eq (n lo hi : Int) : spec_l1In n lo hi = some (decide (lo ≤ n ∧ n ≤ hi)) := by
  unfold spec_l1In
  by_cases h : lo ≤ n <;> simp [leI, ltI, h]

theorem positions_eq : impl_Positions = spec_Positions := rfl
theorem isTruth_eq (a : Int) : impl_IsTruth a = spec_IsTruth a := by
  unfold impl_IsTruth spec_IsTruth
  simp [within_eq, l1In_eq]
theorem isWithin_eq : impl_IsWithin = spec_IsWithin := by
  funext a b
  unfold impl_IsWithin spec_IsWithin
  simp only [isTruth_eq]

def posF (n : Int) : Nat → List Int → List Int
  | _, [] => []
  | i, x :: xs => if x = n then (i : Int) :: posF n (i + 1) xs else posF n (i + 1) xs
theorem posE (n : Int) (N : Nat) (hN : small N) : ∀ (xs : List Int) (i : Nat) (acc : List Int), acc.length + xs.length ≤ N →
    foldE (β := List Int) (ρ := List Int) (fun acc i x => if x = n then (room (acc.length + 1) 8).bind fun _ => some (.inl (acc ++ [(i : Int)])) else some (.inl acc)) (fun acc => some acc) acc i xs = some (acc ++ posF n i xs)
  | [], i, acc, _ => by simp [foldE, posF]
  | x :: xs, i, acc, h => by
    rw [foldE]
    simp only [List.length_cons] at h
    by_cases hx : x = n
    · unfold small at hN
      have hr : room (acc.length + 1) 8 = some () := by unfold room maxBytes; rw [if_pos (by omega)]
      simp only [hx, if_true, hr, Option.bind_some]
      rw [posE n N hN xs (i + 1) (acc ++ [(i : Int)]) (by simp; omega)]
      simp [posF, hx]
    · simp only [hx, if_false]
      rw [posE n N hN xs (i + 1) acc (by omega)]
      simp [posF, hx]
theorem positions (xs : List Int) (n : Int) (hl : small xs.length) : spec_Positions xs n = some (posF n 0 xs) := by
  unfold spec_Positions
  rw [iter_list xs (fun (b : List Int) i => (b, i)) (fun acc i x => if x = n then (room (acc.length + 1) 8).bind fun _ => some (.inl (acc ++ [(i : Int)])) else some (.inl acc)) (fun acc => some acc) (fun b i x hx => ?_) (fun b => ?_) [], posE n xs.length hl xs 0 [] (by simp)]
  · simp
  · have hlt := (List.getElem?_eq_some_iff.1 hx).1
    unfold small at hl
    simp only [at_nat, hx, ltI, eqI, cond_dec, Option.bind_some]
    rw [if_pos (by omega), addI_eq (by omega) (by omega)]
    by_cases h : x = n
    · simp only [h, if_true, List.length_singleton]
      cases room (b.length + 1) 8 <;> rfl
    · simp [h]
  · simp [ltI]
theorem posF_mem (n : Int) : ∀ (xs : List Int) (i : Nat), 0 < (posF n i xs).length ↔ n ∈ xs
  | [], i => by simp [posF]
  | x :: xs, i => by
    simp only [posF]
    by_cases h : x = n
    · simp [h]
    · have := posF_mem n xs (i + 1)
      simp only [h, if_false, this, List.mem_cons]
      constructor
      · exact .inr
      · rintro (h' | h')
        · exact absurd h'.symm h
        · exact h'
theorem l7Has (xs : List Int) (n : Int) (hl : small xs.length) : spec_l7Has xs n = some (decide (n ∈ xs)) := by
  unfold spec_l7Has
  rw [positions xs n hl]
  have := posF_mem n xs 0
  simp only [Option.bind_some, ltI, Option.some.injEq]
  rw [decide_eq_decide, ← this]
  omega

theorem nodup_bound : ∀ (n : Nat) (xs : List Int), xs.Nodup → (∀ x ∈ xs, 0 ≤ x ∧ x < n) → xs.length ≤ n
  | 0, xs, _, h => by
    cases xs with
    | nil => exact Nat.le_refl _
    | cons x xs => have := h x (List.mem_cons_self ..); omega
  | n + 1, xs, hn, h => by
    have h1 := nodup_bound n (xs.erase (n : Int)) (hn.erase _) (fun x hx => by
      have hx' := (hn.mem_erase_iff).1 hx
      have := h x hx'.2
      have hne := hx'.1
      omega)
    by_cases hm : (n : Int) ∈ xs
    · rw [List.length_erase_of_mem hm] at h1; omega
    · rw [List.erase_of_not_mem hm] at h1; omega

theorem isCell_eq (h : THeap) (n : Int) (hs : small h.next.length) : impl_Heap_isCell h n = some (decide (0 ≤ n ∧ n < (h.next.length : Int))) := by
  unfold impl_Heap_isCell
  unfold small at hs
  rw [within_eq, subI_eq (by omega) (by omega)]
  simp only [Option.bind_some, Option.some.injEq, decide_eq_decide]
  omega

def fol (next : List Int) : Nat → Int → List Int → (List Int) ⊕ Unit
  | 0, _, out => .inl out
  | f + 1, cur, out => if cur = -1 then .inl out else if cur ∈ out then .inl out else if 0 ≤ cur ∧ cur < (next.length : Int) then fol next f (next.getD cur.toNat 0) (out ++ [cur]) else .inr ()

theorem at_in {xs : List Int} {c : Int} (h : 0 ≤ c ∧ c < (xs.length : Int)) : at? xs c = some (xs.getD c.toNat 0) := by
  unfold at?
  rw [if_pos h.1]
  have : c.toNat < xs.length := by omega
  simp [List.getD, List.getElem?_eq_getElem this]
structure Seen (next out : List Int) : Prop where
  nd : out.Nodup
  rng : ∀ x ∈ out, 0 ≤ x ∧ x < (next.length : Int)
theorem Seen.len {next out : List Int} (h : Seen next out) : out.length ≤ next.length := nodup_bound _ _ h.nd h.rng
theorem Seen.push {next out : List Int} (h : Seen next out) {c : Int} (hc : c ∉ out) (hr : 0 ≤ c ∧ c < (next.length : Int)) : Seen next (out ++ [c]) :=
  ⟨by rw [List.nodup_append]; exact ⟨h.nd, by simp, fun a ha b hb => by simp at hb; subst hb; rintro rfl; exact hc ha⟩, fun x hx => by
    rcases List.mem_append.1 hx with hx | hx
    · exact h.rng x hx
    · simp at hx; subst hx; exact hr⟩

theorem spec_fol (h : THeap) (hs : small h.next.length) : ∀ (f : Nat) (cur : Int) (out : List Int), Seen h.next out → h.next.length + 1 ≤ f + out.length →
    iter (ρ := ((List Int)) ⊕ (Unit)) (fun s_1 : Int × (List Int) =>
      cond (neI s_1.1 (-1))
        ((spec_l7Has s_1.2 s_1.1).bind fun y_12 =>
          cond y_12
            (some (.inr (.inl s_1.2)))
            ((spec_l1In s_1.1 0 (subI (h.next.length : Int) 1)).bind fun y_16 =>
              cond y_16
                ((room (s_1.2.length + [s_1.1].length) 8).bind fun _ =>
                  (at? h.next s_1.1).bind fun e_22 =>
                    some (.inl (e_22, s_1.2 ++ [s_1.1])))
                (some (.inr (.inr ())))))
        (some (.inr (.inl s_1.2)))) (cur, out) = some (fol h.next f cur out)
  | 0, cur, out, hS, hf => by have := hS.len; omega
  | f + 1, cur, out, hS, hf => by
    have hl := hS.len
    have hs' := hs
    unfold small at hs'
    have hso : small out.length := by unfold small; omega
    by_cases h1 : cur = -1
    · rw [iter_inr (r := .inl out) (by simp [neI, h1])]
      simp [fol, h1]
    · by_cases h2 : cur ∈ out
      · rw [iter_inr (r := .inl out) (by simp [neI, h1, l7Has out cur hso, h2])]
        simp [fol, h1, h2]
      · by_cases h3 : 0 ≤ cur ∧ cur < (h.next.length : Int)
        · have hr : room (out.length + 1) 8 = some () := by unfold room maxBytes; rw [if_pos (by omega)]
          rw [iter_inl (s' := (h.next.getD cur.toNat 0, out ++ [cur])) (by
            have h4 : 0 ≤ cur ∧ cur ≤ (h.next.length : Int) - 1 := by omega
            simp only [neI, h1, decide_false, Bool.not_false, cond_true, l7Has out cur hso, h2, Option.bind_some, cond_false, l1In_eq, subI_eq (a := (h.next.length : Int)) (b := 1) (by omega) (by omega), h4, and_self, decide_true, List.length_singleton, hr, at_in h3]),
            spec_fol h hs f _ _ (hS.push h2 h3) (by simp; omega)]
          simp [fol, h1, h2, h3]
        · rw [iter_inr (r := .inr ()) (by
            have h4 : ¬ (0 ≤ cur ∧ cur ≤ (h.next.length : Int) - 1) := by omega
            simp only [neI, h1, decide_false, Bool.not_false, cond_true, l7Has out cur hso, h2, Option.bind_some, cond_false, l1In_eq, subI_eq (a := (h.next.length : Int)) (b := 1) (by omega) (by omega), h4])]
          simp [fol, h1, h2, h3]

def folL (next : List Int) (c : Int) : List Int := Sum.elim id (fun _ => []) (fol next (next.length + 1) c [])
theorem spec_followed (h : THeap) (hs : small h.next.length) (c : Int) : spec_Followed h c = some (folL h.next c) := by
  unfold spec_Followed
  rw [spec_fol h hs (h.next.length + 1) c [] ⟨by simp, by simp⟩ (by simp)]
  unfold folL
  cases fol h.next (h.next.length + 1) c [] <;> rfl

theorem impl_fol (h : THeap) (hs : small h.next.length) (cell : Int) (hc : cell ≠ -1) : ∀ (f : Nat) (cur : Int) (out : List Int), Seen h.next out → h.next.length + 1 ≤ f + out.length →
    iter (ρ := ((List Int)) ⊕ (Unit)) (fun s_1 : (List Int) × Int =>
      cond (neI s_1.2 (-1))
        ((impl_Heap_isCell h s_1.2).bind fun y_13 =>
          cond y_13
            ((slices_Contains_int s_1.1 s_1.2).bind fun y_17 =>
              cond y_17
                (some (.inr (.inl s_1.1)))
                ((room (s_1.1.length + [s_1.2].length) 8).bind fun _ =>
                  (at? h.next s_1.2).bind fun e_23 =>
                    some (.inl (s_1.1 ++ [s_1.2], e_23))))
            (some (.inr (.inr ()))))
        (cond (eqI cell (-1))
          ((impl_Heap_isCell h s_1.2).bind fun y_29 =>
            cond y_29
              ((slices_Contains_int s_1.1 s_1.2).bind fun y_33 =>
                cond y_33
                  (some (.inr (.inl s_1.1)))
                  ((room (s_1.1.length + [s_1.2].length) 8).bind fun _ =>
                    (at? h.next s_1.2).bind fun e_39 =>
                      some (.inl (s_1.1 ++ [s_1.2], e_39))))
              (some (.inr (.inr ()))))
          (some (.inr (.inl s_1.1))))) (out, cur) = some (fol h.next f cur out)
  | 0, cur, out, hS, hf => by have := hS.len; omega
  | f + 1, cur, out, hS, hf => by
    have hl := hS.len
    have hs' := hs
    unfold small at hs'
    have hso : small out.length := by unfold small; omega
    by_cases h1 : cur = -1
    · rw [iter_inr (r := .inl out) (by simp [neI, eqI, h1, hc])]
      simp [fol, h1]
    · by_cases h3 : 0 ≤ cur ∧ cur < (h.next.length : Int)
      · by_cases h2 : cur ∈ out
        · rw [iter_inr (r := .inl out) (by simp [neI, h1, isCell_eq h cur hs, h3, contains_int out cur hso, h2])]
          simp [fol, h1, h2]
        · have hr : room (out.length + 1) 8 = some () := by unfold room maxBytes; rw [if_pos (by omega)]
          rw [iter_inl (s' := (out ++ [cur], h.next.getD cur.toNat 0)) (by
            simp only [neI, h1, decide_false, Bool.not_false, cond_true, isCell_eq h cur hs, h3, contains_int out cur hso, h2, Option.bind_some, cond_false, and_self, decide_true, List.length_singleton, hr, at_in h3]),
            impl_fol h hs cell hc f _ _ (hS.push h2 h3) (by simp; omega)]
          simp [fol, h1, h2, h3]
      · have h2 : cur ∉ out := fun hm => h3 (hS.rng cur hm)
        rw [iter_inr (r := .inr ()) (by simp only [neI, h1, decide_false, Bool.not_false, cond_true, isCell_eq h cur hs, h3, Option.bind_some, cond_false])]
        simp [fol, h1, h2, h3]

theorem impl_followed (h : THeap) (hs : small h.next.length) (c : Int) : impl_Followed h c = some (folL h.next c) := by
  unfold impl_Followed
  by_cases hc : c = -1
  · rw [iter_inr (r := .inr ()) (by
      have : ¬ (0 ≤ c ∧ c < (h.next.length : Int)) := by omega
      simp [neI, eqI, hc, isCell_eq h _ hs])]
    simp [folL, fol, hc]
  · rw [impl_fol h hs c hc (h.next.length + 1) c [] ⟨by simp, by simp⟩ (by simp)]
    unfold folL
    cases fol h.next (h.next.length + 1) c [] <;> rfl
theorem folL_len (next : List Int) (c : Int) : (folL next c).length ≤ next.length := by
  have key : ∀ f cur out, Seen next out → (Sum.elim id (fun _ => []) (fol next f cur out) : List Int).length ≤ next.length := by
    intro f
    induction f with
    | zero => intro cur out hS; exact hS.len
    | succ f ih =>
      intro cur out hS
      simp only [fol]
      split
      · exact hS.len
      · split
        · exact hS.len
        · rename_i h2
          split
          · rename_i h3; exact ih _ _ (hS.push h2 h3)
          · simp
  exact key _ _ _ ⟨by simp, by simp⟩

theorem allE {α ρ : Type} (p : α → Bool) (rf rt : ρ) : ∀ (xs : List α) (i : Nat), foldE (β := Unit) (fun _ _ x => if p x then some (.inl ()) else some (.inr rf)) (fun _ => some rt) () i xs = some (if xs.all p then rt else rf)
  | [], _ => rfl
  | x :: xs, i => by
    rw [foldE]
    by_cases h : p x = true
    · simp only [h, if_true]
      rw [allE p rf rt xs (i + 1)]
      simp [h]
    · simp [h]
def inH (next : List Int) (n : Int) : Bool := decide (-1 ≤ n ∧ n ≤ (next.length : Int) - 1)
def cellsB (h : THeap) : Bool := h.vars.all (inH h.next) && h.next.all (inH h.next)
theorem l7Cells (h : THeap) (hv : small h.vars.length) (hs : small h.next.length) : spec_l7Cells h = some (cellsB h) := by
  have hv' := hv
  have hs' := hs
  unfold small at hv' hs'
  unfold spec_l7Cells
  rw [iter_list h.vars (fun (_ : Unit) i => i) (fun _ _ x => if inH h.next x then some (.inl ()) else some (.inr (.inl ()))) (fun _ => some (.inr ())) (fun b i x hx => ?_) (fun b => ?_) (), allE]
  · simp only [Option.bind_some]
    by_cases h1 : h.vars.all (inH h.next) = true
    · rw [if_pos h1]
      simp only [Sum.elim_inr]
      rw [iter_list h.next (fun (_ : Unit) i => i) (fun _ _ x => if inH h.next x then some (.inl ()) else some (.inr (.inl false))) (fun _ => some (.inr ())) (fun b i x hx => ?_) (fun b => ?_) (), allE]
      · by_cases h2 : h.next.all (inH h.next) = true
        · simp only [h2, if_true, Option.bind_some, Sum.elim_inr, cellsB, h1, Bool.and_self]
        · simp only [h2, if_false, Option.bind_some, Sum.elim_inl, cellsB, h1, Bool.true_and, Bool.false_eq_true]
      · have hlt := (List.getElem?_eq_some_iff.1 hx).1
        simp only [at_nat, hx, ltI, cond_dec, Option.bind_some, l1In_eq]
        rw [if_pos (by omega), addI_eq (by omega) (by omega), subI_eq (by omega) (by omega)]
        by_cases h3 : -1 ≤ x ∧ x ≤ (h.next.length : Int) - 1 <;> simp [inH, h3]
      · simp [ltI]
    · rw [if_neg h1]
      simp [cellsB, h1]
  · have hlt := (List.getElem?_eq_some_iff.1 hx).1
    simp only [at_nat, hx, ltI, cond_dec, Option.bind_some, l1In_eq]
    rw [if_pos (by omega), addI_eq (by omega) (by omega), subI_eq (by omega) (by omega)]
    by_cases h3 : -1 ≤ x ∧ x ≤ (h.next.length : Int) - 1 <;> simp [inH, h3]
  · simp [ltI]

theorem indexF {α : Type} (xs : List α) (f : α → Option Bool) (p : α → Bool) (hf : ∀ x ∈ xs, f x = some (p x)) (hl : small xs.length) :
    iter (ρ := (Int) ⊕ (Unit)) (fun s_1 : Int =>
      cond (ltI s_1 (xs.length : Int))
        ((at? xs s_1).bind fun e_12 =>
          (f e_12).bind fun y_17 =>
            cond y_17
              (some (.inr (.inl s_1)))
              (some (.inl (addI s_1 1))))
        (some (.inr (.inr ())))) 0 = some (match xs.findIdx? p with | some j => .inl (j : Int) | none => .inr ()) := by
  rw [iter_list xs (fun (_ : Unit) i => i) (fun _ i x => if p x = true then some (.inr (.inl (i : Int))) else some (.inl ())) (fun _ => some (.inr ())) (fun b i x hx => ?_) (fun b => ?_) (), findE]
  · simp
  · have hlt := (List.getElem?_eq_some_iff.1 hx).1
    unfold small at hl
    simp only [at_nat, hx, Option.bind_some, ltI, cond_dec, hf x (List.mem_of_getElem? hx)]
    rw [if_pos (by omega), addI_eq (by omega) (by omega)]
    cases p x <;> simp
  · simp [ltI]
theorem containsF_of {α : Type} (xs : List α) (p : α → Bool) : leI 0 (match xs.findIdx? p with | some j => (j : Int) | none => -1) = xs.any p := by
  cases h : xs.findIdx? p with
  | none =>
    rw [List.findIdx?_eq_none_iff] at h
    have : xs.any p = false := List.any_eq_false.2 fun x hx => by simp [h x hx]
    rw [this]; rfl
  | some j =>
    rw [List.findIdx?_eq_some_iff_getElem] at h
    obtain ⟨hj, hp, _⟩ := h
    have : xs.any p = true := List.any_eq_true.2 ⟨_, List.getElem_mem hj, hp⟩
    rw [this]
    simp [leI]
theorem containsFunc_int (xs : List Int) (f : Int → Option Bool) (p : Int → Bool) (hf : ∀ x ∈ xs, f x = some (p x)) (hl : small xs.length) : slices_ContainsFunc_int xs f = some (xs.any p) := by
  unfold slices_ContainsFunc_int slices_IndexFunc_int
  rw [indexF xs f p hf hl, ← containsF_of]
  cases xs.findIdx? p <;> rfl
theorem containsFunc_str (xs : List TStructure) (f : TStructure → Option Bool) (p : TStructure → Bool) (hf : ∀ x ∈ xs, f x = some (p x)) (hl : small xs.length) : slices_ContainsFunc_Structure xs f = some (xs.any p) := by
  unfold slices_ContainsFunc_Structure slices_IndexFunc_Structure
  rw [indexF xs f p hf hl, ← containsF_of]
  cases xs.findIdx? p <;> rfl
theorem room_small {n b : Nat} (hn : n ≤ 4000000) (hb : b ≤ 1000) : room n b = some () := by
  unfold room maxBytes
  have : n * (b + 1) ≤ 4000000 * 1001 := Nat.mul_le_mul hn (by omega)
  rw [if_pos (by omega)]
theorem areCells (h : THeap) (hvs : small (h.vars ++ h.next).length) (hv : small h.vars.length) (hs : small h.next.length) : impl_Heap_areCells h = some (cellsB h) := by
  have hv' := hv
  have hs' := hs
  unfold small at hv' hs'
  have hc : slices_Concat_int [h.vars, h.next] = some (h.vars ++ h.next) := by
    unfold slices_Concat_int lib_Concat
    rw [room_small (by simp) (by omega), room_small (by unfold small at hvs; simpa using hvs) (by omega)]
    simp
  unfold impl_Heap_areCells
  rw [hc]
  have hp : ∀ n : Int, impl_Heap_areCells_1 n h = some (!inH h.next n) := fun n => by
    unfold impl_Heap_areCells_1
    rw [isCell_eq h n hs]
    by_cases h1 : n = -1
    · simp [neI, h1, inH]; omega
    · simp only [neI, h1, decide_false, Bool.not_false, cond_true, Option.bind_some, Option.some.injEq, inH]
      have : (0 ≤ n ∧ n < (h.next.length : Int)) ↔ (-1 ≤ n ∧ n ≤ (h.next.length : Int) - 1) := by omega
      rw [decide_eq_decide.2 this]
      rfl
  have hcf : slices_ContainsFunc_int (h.vars ++ h.next) (fun x0 => impl_Heap_areCells_1 x0 h) = some ((h.vars ++ h.next).any fun n => !inH h.next n) := by
    exact containsFunc_int _ _ _ (fun x _ => hp x) hvs
  simp only [Option.bind_some, hcf, cellsB, List.any_append, Option.some.injEq]
  rw [← List.not_all_eq_any_not, ← List.not_all_eq_any_not]
  cases h.vars.all (inH h.next) <;> cases h.next.all (inH h.next) <;> rfl

theorem folL_seen (next : List Int) (c : Int) : Seen next (folL next c) := by
  have key : ∀ f cur out, Seen next out → Seen next (Sum.elim id (fun _ => []) (fol next f cur out) : List Int) := by
    intro f
    induction f with
    | zero => intro cur out hS; exact hS
    | succ f ih =>
      intro cur out hS
      simp only [fol]
      split
      · exact hS
      · split
        · exact hS
        · rename_i h2
          split
          · rename_i h3; exact ih _ _ (hS.push h2 h3)
          · exact ⟨by simp, by simp⟩
  exact key _ _ _ ⟨by simp, by simp⟩
def push (acc : List Int) (x : Int) : List Int := if x ∈ acc then acc else acc ++ [x]
theorem Seen.push' {next out : List Int} (h : Seen next out) {c : Int} (hr : 0 ≤ c ∧ c < (next.length : Int)) : Seen next (Go.Ev.push out c) := by
  unfold Go.Ev.push
  split
  · exact h
  · rename_i hc; exact h.push hc hr
theorem Seen.pushs {next : List Int} : ∀ (ys out : List Int), Seen next out → (∀ x ∈ ys, 0 ≤ x ∧ x < (next.length : Int)) → Seen next (ys.foldl Go.Ev.push out)
  | [], _, h, _ => h
  | y :: ys, out, h, hr => Seen.pushs ys _ (h.push' (hr y (List.mem_cons_self ..))) fun x hx => hr x (List.mem_cons_of_mem _ hx)
theorem pushE (next : List Int) (hs : small next.length) (q : List Int → Int → Option Bool) (hq : ∀ acc x, small acc.length → q acc x = some (decide (x ∈ acc))) : ∀ (ys : List Int) (i : Nat) (acc : List Int), Seen next acc → (∀ x ∈ ys, 0 ≤ x ∧ x < (next.length : Int)) →
    foldE (β := List Int) (ρ := List Int) (fun acc _ x => (q acc x).bind fun b => cond b (some (.inl acc)) ((room (acc.length + 1) 8).bind fun _ => some (.inl (acc ++ [x])))) (fun acc => some acc) acc i ys = some (ys.foldl push acc)
  | [], _, _, _, _ => rfl
  | y :: ys, i, acc, h, hr => by
    have hl := h.len
    unfold small at hs
    have hsa : small acc.length := by unfold small; omega
    rw [foldE]
    by_cases hm : y ∈ acc
    · simp only [hq acc y hsa, hm, decide_true, Option.bind_some, cond_true]
      rw [pushE next hs q hq ys (i + 1) acc h fun x hx => hr x (List.mem_cons_of_mem _ hx)]
      simp [push, hm]
    · have hroom : room (acc.length + 1) 8 = some () := by unfold room maxBytes; rw [if_pos (by omega)]
      simp only [hq acc y hsa, hm, decide_false, Option.bind_some, cond_false, hroom]
      rw [pushE next hs q hq ys (i + 1) _ (h.push hm (hr y (List.mem_cons_self ..))) fun x hx => hr x (List.mem_cons_of_mem _ hx)]
      simp [push, hm]
def ordL (next vars : List Int) : List Int := vars.foldl (fun acc e => (folL next e).foldl push acc) []
theorem ordSeen (next : List Int) : ∀ (vs acc : List Int), Seen next acc → Seen next (vs.foldl (fun acc e => (folL next e).foldl push acc) acc)
  | [], _, h => h
  | v :: vs, acc, h => ordSeen next vs _ (Seen.pushs _ _ h (folL_seen next v).rng)

theorem ordE (next : List Int) (F : List Int → Int → Option (List Int)) (hF : ∀ acc e, Seen next acc → F acc e = some ((folL next e).foldl push acc)) : ∀ (vs : List Int) (i : Nat) (acc : List Int), Seen next acc →
    foldE (β := List Int) (ρ := List Int) (fun acc _ e => (F acc e).map .inl) (fun acc => some acc) acc i vs = some (vs.foldl (fun acc e => (folL next e).foldl push acc) acc)
  | [], _, _, _ => rfl
  | v :: vs, i, acc, h => by
    rw [foldE, hF acc v h]
    simp only [Option.map_some]
    rw [ordE next F hF vs (i + 1) _ (Seen.pushs _ _ h (folL_seen next v).rng)]
    rfl
theorem met (h : THeap) (hv : small h.vars.length) (hs : small h.next.length) : impl_Heap_met h = some (ordL h.next h.vars) := by
  unfold impl_Heap_met
  have hv' := hv
  unfold small at hv'
  rw [iter_list h.vars (fun (b : List Int) i => (b, i)) (fun acc _ e => (iter (ρ := (List Int)) (fun s_22 : Int × (List Int) =>
                cond (ltI s_22.1 ((folL h.next e).length : Int))
                  ((at? (folL h.next e) s_22.1).bind fun e_38 =>
                    (slices_Contains_int s_22.2 e_38).bind fun y_43 =>
                      cond y_43
                        (some (.inl (addI s_22.1 1, s_22.2)))
                        ((room (s_22.2.length + [e_38].length) 8).bind fun _ =>
                          some (.inl (addI s_22.1 1, s_22.2 ++ [e_38]))))
                  (some (.inr s_22.2))) (0, acc)).map .inl) (fun acc => some acc) (fun b i x hx => ?_) (fun b => ?_) []]
  · rw [ordE h.next (fun acc e => iter (ρ := (List Int)) (fun s_22 : Int × (List Int) =>
                cond (ltI s_22.1 ((folL h.next e).length : Int))
                  ((at? (folL h.next e) s_22.1).bind fun e_38 =>
                    (slices_Contains_int s_22.2 e_38).bind fun y_43 =>
                      cond y_43
                        (some (.inl (addI s_22.1 1, s_22.2)))
                        ((room (s_22.2.length + [e_38].length) 8).bind fun _ =>
                          some (.inl (addI s_22.1 1, s_22.2 ++ [e_38]))))
                  (some (.inr s_22.2))) (0, acc)) (fun acc e hS => ?_) h.vars 0 [] ⟨by simp, by simp⟩]
    · rfl
    · have hfl := folL_len h.next e
      have hs' := hs
      unfold small at hs'
      rw [iter_list (folL h.next e) (fun (b : List Int) i => (i, b)) (fun acc _ x => (slices_Contains_int acc x).bind fun b => cond b (some (.inl acc)) ((room (acc.length + 1) 8).bind fun _ => some (.inl (acc ++ [x])))) (fun acc => some acc) (fun b i x hx => ?_) (fun b => ?_) acc,
        pushE h.next hs slices_Contains_int contains_int _ _ _ hS (folL_seen h.next e).rng]
      · have hlt := (List.getElem?_eq_some_iff.1 hx).1
        simp only [at_nat, hx, Option.bind_some, ltI, cond_dec]
        rw [if_pos (by omega), addI_eq (by omega) (by omega)]
        cases slices_Contains_int b x with
        | none => rfl
        | some t =>
          cases t with
          | true => rfl
          | false =>
            simp only [Option.bind_some, cond_false, List.length_singleton]
            cases room (b.length + 1) 8 <;> rfl
      · simp [ltI]
  · have hlt := (List.getElem?_eq_some_iff.1 hx).1
    simp only [at_nat, hx, Option.bind_some, ltI, cond_dec, impl_followed h hs]
    rw [if_pos (by omega), addI_eq (by omega) (by omega)]
    generalize iter _ _ = r
    cases r <;> rfl
  · simp [ltI]
theorem l7Order (h : THeap) (hv : small h.vars.length) (hs : small h.next.length) : spec_l7Order h = some (ordL h.next h.vars) := by
  unfold spec_l7Order
  have hv' := hv
  unfold small at hv'
  rw [iter_list h.vars (fun (b : List Int) i => (b, i)) (fun acc _ e => (iter (ρ := (List Int)) (fun s_22 : Int × (List Int) =>
                cond (ltI s_22.1 ((folL h.next e).length : Int))
                  ((at? (folL h.next e) s_22.1).bind fun e_38 =>
                    (spec_l7Has s_22.2 e_38).bind fun y_43 =>
                      cond y_43
                        (some (.inl (addI s_22.1 1, s_22.2)))
                        ((at? (folL h.next e) s_22.1).bind fun _ =>
                          (room (s_22.2.length + [e_38].length) 8).bind fun _ =>
                            some (.inl (addI s_22.1 1, s_22.2 ++ [e_38]))))
                  (some (.inr s_22.2))) (0, acc)).map .inl) (fun acc => some acc) (fun b i x hx => ?_) (fun b => ?_) []]
  · rw [ordE h.next (fun acc e => iter (ρ := (List Int)) (fun s_22 : Int × (List Int) =>
                cond (ltI s_22.1 ((folL h.next e).length : Int))
                  ((at? (folL h.next e) s_22.1).bind fun e_38 =>
                    (spec_l7Has s_22.2 e_38).bind fun y_43 =>
                      cond y_43
                        (some (.inl (addI s_22.1 1, s_22.2)))
                        ((at? (folL h.next e) s_22.1).bind fun _ =>
                          (room (s_22.2.length + [e_38].length) 8).bind fun _ =>
                            some (.inl (addI s_22.1 1, s_22.2 ++ [e_38]))))
                  (some (.inr s_22.2))) (0, acc)) (fun acc e hS => ?_) h.vars 0 [] ⟨by simp, by simp⟩]
    · rfl
    · have hfl := folL_len h.next e
      have hs' := hs
      unfold small at hs'
      rw [iter_list (folL h.next e) (fun (b : List Int) i => (i, b)) (fun acc _ x => (spec_l7Has acc x).bind fun b => cond b (some (.inl acc)) ((room (acc.length + 1) 8).bind fun _ => some (.inl (acc ++ [x])))) (fun acc => some acc) (fun b i x hx => ?_) (fun b => ?_) acc,
        pushE h.next hs spec_l7Has l7Has _ _ _ hS (folL_seen h.next e).rng]
      · have hlt := (List.getElem?_eq_some_iff.1 hx).1
        simp only [at_nat, hx, Option.bind_some, ltI, cond_dec]
        rw [if_pos (by omega), addI_eq (by omega) (by omega)]
        cases spec_l7Has b x with
        | none => rfl
        | some t =>
          cases t with
          | true => rfl
          | false =>
            simp only [Option.bind_some, cond_false, List.length_singleton]
            cases room (b.length + 1) 8 <;> rfl
      · simp [ltI]
  · have hlt := (List.getElem?_eq_some_iff.1 hx).1
    simp only [at_nat, hx, Option.bind_some, ltI, cond_dec, spec_followed h hs]
    rw [if_pos (by omega), addI_eq (by omega) (by omega)]
    generalize iter _ _ = r
    cases r <;> rfl
  · simp [ltI]

def foldN {β : Type} (f : β → Int → Option β) : Int → Nat → β → Option β
  | _, 0, b => some b
  | lo, n + 1, b => (f b lo).bind (foldN f (lo + 1) n)
theorem iter_count {β σ ρ : Type} {step : σ → Option (σ ⊕ ρ)} (S : β → Int → σ) (f : β → Int → Option β) (e : β → ρ) : ∀ (n : Nat) (lo : Int) (b : β),
    (∀ b (i : Int), lo ≤ i → i < lo + n → step (S b i) = (f b i).map (fun b' => .inl (S b' (i + 1)))) → (∀ b, step (S b (lo + n)) = some (.inr (e b))) → iter step (S b lo) = (foldN f lo n b).map e
  | 0, lo, b, _, h2 => by
    have := h2 b
    rw [show lo + ((0 : Nat) : Int) = lo by simp] at this
    rw [iter_inr this]
    rfl
  | n + 1, lo, b, h1, h2 => by
    have hs := h1 b lo (Int.le_refl _) (by omega)
    rw [foldN]
    cases hf : f b lo with
    | none => rw [hf] at hs; rw [iter_none hs]; rfl
    | some b' =>
      rw [hf] at hs
      rw [iter_inl (s' := S b' (lo + 1)) hs]
      simp only [Option.bind_some]
      refine iter_count S f e n (lo + 1) b' (fun b i hi1 hi2 => h1 b i (by omega) (by omega)) fun b => ?_
      rw [show lo + 1 + (n : Int) = lo + ((n + 1 : Nat) : Int) by omega]
      exact h2 b
def upto : Int → Nat → List Int
  | _, 0 => []
  | lo, n + 1 => lo :: upto (lo + 1) n
theorem upto_len : ∀ (n : Nat) (lo : Int), (upto lo n).length = n
  | 0, _ => rfl
  | n + 1, lo => by simp [upto, upto_len n]
theorem foldN_push {α : Type} (g : Int → α) (ok : List α → Int → Option Unit) (N : Nat) (hok : ∀ acc x, acc.length < N → ok acc x = some ()) : ∀ (n : Nat) (lo : Int) (acc : List α), acc.length + n ≤ N →
    foldN (fun acc x => (ok acc x).bind fun _ => some (acc ++ [g x])) lo n acc = some (acc ++ (upto lo n).map g)
  | 0, _, acc, _ => by simp [foldN, upto]
  | n + 1, lo, acc, h => by
    rw [foldN, hok acc lo (by omega)]
    simp only [Option.bind_some]
    rw [foldN_push g ok N hok n (lo + 1) _ (by simp; omega)]
    simp [upto]

def lexF (vals : List Int) : Nat → List (List Int)
  | 0 => [[]]
  | n + 1 => vals.flatMap fun v => (lexF vals n).map (v :: ·)
def lexStep (vals : List Int) (out : List (List Int)) : List (List Int) := out.flatMap fun l => vals.map fun x => l ++ [x]
theorem lexStep_cons (vals : List Int) (v : Int) (out : List (List Int)) : lexStep vals (out.map (v :: ·)) = (lexStep vals out).map (v :: ·) := by
  unfold lexStep
  rw [List.flatMap_map, List.map_flatMap]
  congr 1
  funext l
  simp
theorem flatMap_assoc' {α β γ : Type} (xs : List α) (f : α → List β) (g : β → List γ) : (xs.flatMap f).flatMap g = xs.flatMap fun x => (f x).flatMap g := by
  induction xs with
  | nil => rfl
  | cons x xs ih => simp [ih]
theorem lexF_step (vals : List Int) : ∀ n, lexF vals (n + 1) = lexStep vals (lexF vals n)
  | 0 => by
    simp only [lexF, lexStep, List.flatMap_cons, List.flatMap_nil, List.append_nil, List.nil_append, List.map_cons, List.map_nil]
    induction vals with
    | nil => rfl
    | cons v vs ih => simp [ih]
  | n + 1 => by
    have ih := lexF_step vals n
    show vals.flatMap (fun v => (lexF vals (n + 1)).map (v :: ·)) = lexStep vals (vals.flatMap fun v => (lexF vals n).map (v :: ·))
    unfold lexStep
    rw [flatMap_assoc']
    congr 1
    funext v
    rw [ih]
    exact (lexStep_cons vals v (lexF vals n)).symm
theorem lexF_len (vals : List Int) : ∀ n, (lexF vals n).length = vals.length ^ n
  | 0 => rfl
  | n + 1 => by
    have key : ∀ ws : List Int, (ws.flatMap fun v => (lexF vals n).map (v :: ·)).length = ws.length * vals.length ^ n := by
      intro ws
      induction ws with
      | nil => simp
      | cons w ws ih => rw [List.flatMap_cons, List.length_append, ih, List.length_map, lexF_len vals n, List.length_cons, Nat.add_mul, Nat.one_mul, Nat.add_comm]
    rw [lexF, key, Nat.pow_succ, Nat.mul_comm]
theorem lexF_mem (vals : List Int) : ∀ n l, l ∈ lexF vals n → l.length = n ∧ ∀ x ∈ l, x ∈ vals
  | 0, l, h => by simp [lexF] at h; subst h; simp
  | n + 1, l, h => by
    simp only [lexF, List.mem_flatMap, List.mem_map] at h
    obtain ⟨v, hv, l', hl', rfl⟩ := h
    obtain ⟨h1, h2⟩ := lexF_mem vals n l' hl'
    exact ⟨by simp [h1], fun x hx => by rcases List.mem_cons.1 hx with rfl | hx; exact hv; exact h2 x hx⟩

theorem mapPushE {α γ : Type} (g : α → γ) (F : List γ → α → Option Unit) (N : Nat) (P : α → Prop) (hF : ∀ acc x, acc.length < N → P x → F acc x = some ()) : ∀ (ys : List α) (i : Nat) (acc : List γ), (∀ y ∈ ys, P y) → acc.length + ys.length ≤ N →
    foldE (β := List γ) (ρ := List γ) (fun acc _ x => (F acc x).bind fun _ => some (.inl (acc ++ [g x]))) (fun acc => some acc) acc i ys = some (acc ++ ys.map g)
  | [], _, acc, _, _ => by simp [foldE]
  | y :: ys, i, acc, hP, h => by
    simp only [List.length_cons] at h
    rw [foldE, hF acc y (by omega) (hP y (List.mem_cons_self ..))]
    simp only [Option.bind_some]
    rw [mapPushE g F N P hF ys (i + 1) _ (fun z hz => hP z (List.mem_cons_of_mem _ hz)) (by simp; omega)]
    simp
theorem pow_le {m n : Nat} (hm : m ≤ 5) (hn : n ≤ 4) : m ^ n ≤ 625 :=
  Nat.le_trans (Nat.pow_le_pow_left hm n) (Nat.le_trans (Nat.pow_le_pow_right (by omega) hn) (by decide))
theorem foldN_flat {α : Type} (F : List α → Int → Option (List α)) (g : Int → List α) (N : Nat) (hF : ∀ acc v, acc.length + (g v).length ≤ N → F acc v = some (acc ++ g v)) : ∀ (n : Nat) (lo : Int) (acc : List α), acc.length + ((upto lo n).flatMap g).length ≤ N →
    foldN F lo n acc = some (acc ++ (upto lo n).flatMap g)
  | 0, _, acc, _ => by simp [foldN, upto]
  | n + 1, lo, acc, h => by
    simp only [upto, List.flatMap_cons, List.length_append] at h
    rw [foldN, hF acc lo (by omega)]
    simp only [Option.bind_some]
    rw [foldN_flat F g N hF n (lo + 1) _ (by simp only [List.length_append]; omega)]
    simp [upto]

theorem l9Lists_fix (m : Nat) (hm : m ≤ 5) (most : Int) (hmo : most = (m : Int) - 2) : ∀ n : Nat, n ≤ 4 → fixN R_spec_l9Lists (n + 1) ((n : Int), most, ()) = some (lexF (upto (-1) m) n)
  | 0, _ => by
    show R_spec_l9Lists _ _ = _
    unfold R_spec_l9Lists B_spec_l9Lists
    simp [eqI, lexF]
  | n + 1, hn => by
    have ih := l9Lists_fix m hm most hmo n (by omega)
    show B_spec_l9Lists (fun a b => fixN R_spec_l9Lists (n + 1) (a, b, ())) ((n + 1 : Nat) : Int) most = _
    unfold B_spec_l9Lists
    have h0 : ¬ (((n + 1 : Nat) : Int) = 0) := by omega
    have h1 : subI ((n + 1 : Nat) : Int) 1 = (n : Int) := by rw [subI_eq (by omega) (by omega)]; omega
    have hlen : (lexF (upto (-1) m) n).length ≤ 625 := by rw [lexF_len, upto_len]; exact pow_le hm (by omega)
    simp only [eqI, h0, decide_false, cond_false, h1, ih, Option.bind_some]
    generalize hys : lexF (upto (-1) m) n = ys at *
    have hmem : ∀ y ∈ ys, y.length ≤ 4 := fun y hy => by have := (lexF_mem _ _ y (hys ▸ hy)).1; omega
    rw [iter_count (fun (b : List (List Int)) i => (b, i)) (fun acc v => (room 0 0).bind fun _ => (iter (ρ := (List (List Int))) (fun s_15 : (List (List Int)) × Int =>
                cond (ltI s_15.2 (ys.length : Int))
                  ((at? ys s_15.2).bind fun e_27 =>
                    (room ([v].length + e_27.length) 8).bind fun _ =>
                      (room (s_15.1.length + [[v] ++ e_27].length) 24).bind fun _ =>
                        some (.inl (s_15.1 ++ [[v] ++ e_27], addI s_15.2 1)))
                  (some (.inr s_15.1))) (acc, 0))) id m (-1) [] (fun b v hv1 hv2 => ?_) (fun b => ?_)]
    · rw [foldN_flat _ (fun v => ys.map (v :: ·)) 4000 (fun acc v hl => ?_) m (-1) [] ?_]
      · subst hys; simp [lexF]
      · have h3 := lexF_len (upto (-1) m) (n + 1)
        rw [lexF, hys, upto_len] at h3
        have h4 := pow_le hm hn
        simp only [List.length_nil, Nat.zero_add]
        omega
      · have hl' : acc.length + ys.length ≤ 4000 := by simpa using hl
        rw [room_small (by omega) (by omega)]
        simp only [Option.bind_some]
        rw [iter_list ys (fun (b : List (List Int)) i => (b, i)) (fun acc _ e => ((room ([v].length + e.length) 8).bind fun _ => room (acc.length + 1) 24).bind fun _ => some (.inl (acc ++ [v :: e]))) (fun acc => some acc) (fun b i x hx => ?_) (fun b => ?_) acc,
          mapPushE (v :: ·) (fun acc e => (room ([v].length + e.length) 8).bind fun _ => room (acc.length + 1) 24) 4000 (fun e => e.length ≤ 4) (fun acc x h1 h2 => ?_) ys 0 acc hmem hl']
        · simp only [List.length_singleton]
          rw [room_small (by omega) (by omega), Option.bind_some, room_small (by omega) (by omega)]
        · have hlt := (List.getElem?_eq_some_iff.1 hx).1
          simp only [at_nat, hx, Option.bind_some, ltI, cond_dec]
          rw [if_pos (by omega), addI_eq (by omega) (by omega)]
          simp only [List.length_singleton, List.cons_append, List.nil_append]
          cases room (1 + x.length) 8 with
          | none => rfl
          | some _ =>
            simp only [Option.bind_some]
            cases room (b.length + 1) 24 <;> rfl
        · simp [ltI]
    · simp only [leI, cond_dec]
      rw [if_pos (by omega), addI_eq (by omega) (by omega), room_small (by omega) (by omega)]
      simp only [Option.bind_some]
      generalize iter _ _ = r
      cases r <;> rfl
    · simp only [leI, cond_dec]
      rw [if_neg (by omega)]
      rfl
theorem l9Lists (m n : Nat) (hm : m ≤ 5) (hn : n ≤ 4) (a most : Int) (ha : a = n) (hmo : most = (m : Int) - 2) : spec_l9Lists a most = some (lexF (upto (-1) m) n) := by
  subst ha
  unfold spec_l9Lists
  exact fixO_of R_spec_l9Lists_mono (l9Lists_fix m hm most hmo n hn)

theorem foldN_lex (vals : List Int) (F : List (List Int) → Int → Option (List (List Int))) (hF : ∀ k v, k < 4 → F (lexF vals k) v = some (lexF vals (k + 1))) : ∀ (n : Nat) (lo : Int) (k : Nat), k + n ≤ 4 → foldN F lo n (lexF vals k) = some (lexF vals (k + n))
  | 0, _, k, _ => rfl
  | n + 1, lo, k, h => by
    rw [foldN, hF k lo (by omega)]
    simp only [Option.bind_some]
    rw [foldN_lex vals F hF n (lo + 1) (k + 1) (by omega)]
    congr 2
    omega
theorem flatE {α γ : Type} (g : α → List γ) (F : List γ → α → Option (List γ)) (N : Nat) (P : α → Prop) (hF : ∀ acc x, acc.length + (g x).length ≤ N → P x → F acc x = some (acc ++ g x)) : ∀ (ys : List α) (i : Nat) (acc : List γ), (∀ y ∈ ys, P y) → acc.length + (ys.flatMap g).length ≤ N →
    foldE (β := List γ) (ρ := List γ) (fun acc _ x => (F acc x).map .inl) (fun acc => some acc) acc i ys = some (acc ++ ys.flatMap g)
  | [], _, acc, _, _ => by simp [foldE]
  | y :: ys, i, acc, hP, h => by
    simp only [List.flatMap_cons, List.length_append] at h
    rw [foldE, hF acc y (by omega) (hP y (List.mem_cons_self ..))]
    simp only [Option.map_some]
    rw [flatE g F N P hF ys (i + 1) _ (fun z hz => hP z (List.mem_cons_of_mem _ hz)) (by simp only [List.length_append]; omega)]
    simp
theorem lists_in (m : Nat) (hm : m ≤ 5) (bound : Int) (hb : bound = (m : Int) - 1) (e : List Int) (he : e.length ≤ 4) (acc : List (List Int)) (ha : acc.length + m ≤ 4000) :
    iter (ρ := (List (List Int))) (fun s_31 : (List (List Int)) × Int =>
                    cond (ltI s_31.2 bound)
                      ((slices_Clone_int e).bind fun y_47 =>
                        (room (y_47.length + [s_31.2].length) 8).bind fun _ =>
                          (room (s_31.1.length + [y_47 ++ [s_31.2]].length) 24).bind fun _ =>
                            some (.inl (s_31.1 ++ [y_47 ++ [s_31.2]], addI s_31.2 1)))
                      (some (.inr s_31.1))) (acc, (-1)) = some (acc ++ (upto (-1) m).map fun x => e ++ [x]) := by
  have hcl : slices_Clone_int e = some e := by
    unfold slices_Clone_int lib_Clone
    rw [room_small (by omega) (by omega)]
    rfl
  rw [iter_count (fun (b : List (List Int)) i => (b, i)) (fun acc v => (room (acc.length + 1) 24).bind fun _ => some (acc ++ [e ++ [v]])) id m (-1) acc (fun b v hv1 hv2 => ?_) (fun b => ?_),
    foldN_push (fun x => e ++ [x]) (fun acc _ => room (acc.length + 1) 24) 4000 (fun acc x hx => room_small (by omega) (by omega)) m (-1) acc ha]
  · rfl
  · simp only [ltI, cond_dec, hcl, Option.bind_some, List.length_singleton]
    rw [if_pos (by omega), addI_eq (by omega) (by omega), room_small (n := e.length + 1) (by omega) (by omega)]
    simp only [Option.bind_some]
    cases room (b.length + 1) 24 <;> rfl
  · simp only [ltI, cond_dec]
    rw [if_neg (by omega)]
    rfl

theorem lists (m n : Nat) (hm : m ≤ 5) (hn : n ≤ 4) (many bound : Int) (ha : many = n) (hb : bound = (m : Int) - 1) : impl_lists many bound = some (lexF (upto (-1) m) n) := by
  unfold impl_lists
  rw [iter_count (fun (b : List (List Int)) i => (b, i)) (fun out v => (iter (ρ := (List (List Int))) (fun s_12 : (List (List Int)) × Int =>
            cond (ltI s_12.2 (out.length : Int))
              ((at? out s_12.2).bind fun e_26 =>
                (iter (ρ := (List (List Int))) (fun s_31 : (List (List Int)) × Int =>
                    cond (ltI s_31.2 bound)
                      ((slices_Clone_int e_26).bind fun y_47 =>
                        (room (y_47.length + [s_31.2].length) 8).bind fun _ =>
                          (room (s_31.1.length + [y_47 ++ [s_31.2]].length) 24).bind fun _ =>
                            some (.inl (s_31.1 ++ [y_47 ++ [s_31.2]], addI s_31.2 1)))
                      (some (.inr s_31.1))) (s_12.1, (-1))).bind fun r_54 =>
                  some (.inl (r_54, addI s_12.2 1)))
              (some (.inr s_12.1))) ([], 0))) id n 0 [[]] (fun b v hv1 hv2 => ?_) (fun b => ?_)]
  · have h0 := foldN_lex (upto (-1) m) (fun out v => (iter (ρ := (List (List Int))) (fun s_12 : (List (List Int)) × Int =>
            cond (ltI s_12.2 (out.length : Int))
              ((at? out s_12.2).bind fun e_26 =>
                (iter (ρ := (List (List Int))) (fun s_31 : (List (List Int)) × Int =>
                    cond (ltI s_31.2 bound)
                      ((slices_Clone_int e_26).bind fun y_47 =>
                        (room (y_47.length + [s_31.2].length) 8).bind fun _ =>
                          (room (s_31.1.length + [y_47 ++ [s_31.2]].length) 24).bind fun _ =>
                            some (.inl (s_31.1 ++ [y_47 ++ [s_31.2]], addI s_31.2 1)))
                      (some (.inr s_31.1))) (s_12.1, (-1))).bind fun r_54 =>
                  some (.inl (r_54, addI s_12.2 1)))
              (some (.inr s_12.1))) ([], 0))) (fun k v hk => ?_) n 0 0 (by omega)
    · rw [show ([[]] : List (List Int)) = lexF (upto (-1) m) 0 from rfl, h0]
      simp
    · have hlen : (lexF (upto (-1) m) k).length ≤ 625 := by rw [lexF_len, upto_len]; exact pow_le hm (by omega)
      have hlen2 : (lexF (upto (-1) m) (k + 1)).length ≤ 625 := by rw [lexF_len, upto_len]; exact pow_le hm (by omega)
      rw [lexF_step] at hlen2 ⊢
      have hmem : ∀ y ∈ lexF (upto (-1) m) k, y.length ≤ 4 := fun y hy => by have := (lexF_mem _ _ y hy).1; omega
      generalize lexF (upto (-1) m) k = ys at *
      rw [iter_list ys (fun (b : List (List Int)) i => (b, i)) (fun acc _ e => (iter (ρ := (List (List Int))) (fun s_31 : (List (List Int)) × Int =>
                    cond (ltI s_31.2 bound)
                      ((slices_Clone_int e).bind fun y_47 =>
                        (room (y_47.length + [s_31.2].length) 8).bind fun _ =>
                          (room (s_31.1.length + [y_47 ++ [s_31.2]].length) 24).bind fun _ =>
                            some (.inl (s_31.1 ++ [y_47 ++ [s_31.2]], addI s_31.2 1)))
                      (some (.inr s_31.1))) (acc, (-1))).map .inl) (fun acc => some acc) (fun b i x hx => ?_) (fun b => ?_) [],
        flatE (fun e => (upto (-1) m).map fun x => e ++ [x]) (fun acc e => (iter (ρ := (List (List Int))) (fun s_31 : (List (List Int)) × Int =>
                    cond (ltI s_31.2 bound)
                      ((slices_Clone_int e).bind fun y_47 =>
                        (room (y_47.length + [s_31.2].length) 8).bind fun _ =>
                          (room (s_31.1.length + [y_47 ++ [s_31.2]].length) 24).bind fun _ =>
                            some (.inl (s_31.1 ++ [y_47 ++ [s_31.2]], addI s_31.2 1)))
                      (some (.inr s_31.1))) (acc, (-1)))) 4000 (fun e => e.length ≤ 4) (fun acc x h1 h2 => ?_) ys 0 [] hmem (by unfold lexStep at hlen2; simp only [List.length_nil]; omega)]
      · rfl
      · exact lists_in m hm bound hb x h2 acc (by simpa [upto_len] using h1)
      · have hlt := (List.getElem?_eq_some_iff.1 hx).1
        simp only [at_nat, hx, Option.bind_some, ltI, cond_dec]
        rw [if_pos (by omega), addI_eq (by omega) (by omega)]
        generalize iter _ _ = r
        cases r <;> rfl
      · simp [ltI]
  · simp only [ltI, cond_dec]
    rw [if_pos (by omega), addI_eq (by omega) (by omega)]
    generalize iter _ _ = r
    cases r <;> rfl
  · simp only [ltI, cond_dec]
    rw [if_neg (by omega)]
    rfl
end Go.Ev


namespace Go.Ev
def Tot {α : Type} (o : Option α) (Q : α → Prop) : Prop := ∃ a, o = some a ∧ Q a
theorem Tot.ret {α : Type} {a : α} {Q : α → Prop} (h : Q a) : Tot (some a) Q := ⟨a, rfl, h⟩
theorem Tot.bind {α β : Type} {o : Option α} {f : α → Option β} {P : α → Prop} {Q : β → Prop} (h : Tot o P) (hf : ∀ a, P a → Tot (f a) Q) : Tot (o.bind f) Q := by
  obtain ⟨a, rfl, hP⟩ := h
  exact hf a hP
theorem Tot.mono {α : Type} {o : Option α} {P Q : α → Prop} (h : Tot o P) (hq : ∀ a, P a → Q a) : Tot o Q := by
  obtain ⟨a, h1, h2⟩ := h
  exact ⟨a, h1, hq a h2⟩
theorem Tot.eq {α : Type} {o : Option α} {a : α} (h : Tot o (· = a)) : o = some a := by
  obtain ⟨b, h1, rfl⟩ := h
  exact h1
theorem Tot.of {α : Type} {o : Option α} {a : α} {Q : α → Prop} (h : o = some a) (hq : Q a) : Tot o Q := ⟨a, h, hq⟩
theorem Tot.loop {σ ρ : Type} {step : σ → Option (σ ⊕ ρ)} {Q : ρ → Prop} (I : Nat → σ → Prop) (n : Nat) {s : σ} (h0 : I 0 s)
    (h : ∀ i s, I i s → i ≤ n → Tot (step s) (Sum.elim (fun s' => i < n ∧ I (i + 1) s') Q)) : Tot (iter step s) Q := by
  have key : ∀ (k i : Nat) (s : σ), I i s → i + k = n → Tot (iter step s) Q := by
    intro k
    induction k with
    | zero =>
      intro i s hI hk
      obtain ⟨o, ho, hq⟩ := h i s hI (by omega)
      cases o with
      | inl s' => exact absurd hq.1 (by omega)
      | inr r => exact ⟨r, iter_inr ho, hq⟩
    | succ k ih =>
      intro i s hI hk
      obtain ⟨o, ho, hq⟩ := h i s hI (by omega)
      cases o with
      | inl s' => rw [iter_inl ho]; exact ih (i + 1) s' hq.2 (by omega)
      | inr r => exact ⟨r, iter_inr ho, hq⟩
  exact key n 0 s h0 (by omega)
theorem loop_flat {α γ σ : Type} (S : List γ → Int → σ) (lo : Int) (xs : List α) (g : α → List γ) {acc : List γ} {step : σ → Option (σ ⊕ List γ)}
    (h : ∀ (i : Nat) x b, xs[i]? = some x → b.length + (g x).length ≤ acc.length + (xs.flatMap g).length → step (S b (lo + i)) = some (.inl (S (b ++ g x) (lo + i + 1))))
    (he : ∀ b, step (S b (lo + xs.length)) = some (.inr b)) : iter step (S acc lo) = some (acc ++ xs.flatMap g) := by
  have key : ∀ (suf : List α) (i : Nat) (b : List γ), xs.drop i = suf → i + suf.length = xs.length → b.length + (suf.flatMap g).length = acc.length + (xs.flatMap g).length →
      iter step (S b (lo + i)) = some (b ++ suf.flatMap g) := by
    intro suf
    induction suf with
    | nil =>
      intro i b _ hi _
      simp only [List.length_nil, Nat.add_zero] at hi
      subst hi
      rw [iter_inr (he b)]; simp
    | cons x suf ih =>
      intro i b hd hi hb
      have hx : xs[i]? = some x := by
        have := congrArg (fun l => l[0]?) hd
        simpa using this
      have hd2 : xs.drop (i + 1) = suf := by
        have := congrArg List.tail hd
        simpa using this
      simp only [List.length_cons] at hi
      simp only [List.flatMap_cons, List.length_append] at hb
      rw [iter_inl (h i x b hx (by omega))]
      have := ih (i + 1) (b ++ g x) hd2 (by omega) (by simp only [List.length_append]; omega)
      rw [show lo + (i : Int) + 1 = lo + ((i + 1 : Nat) : Int) by omega, this]
      simp
  have := key xs 0 acc rfl (by simp) rfl
  simpa using this
def nx (next : List Int) (c : Int) : Int := if c = -1 then -1 else next.getD c.toNat 0
def orb (next : List Int) : Nat → Int → Int
  | 0, c => c
  | k + 1, c => nx next (orb next k c)
def orbs (next : List Int) (c : Int) (m : Nat) : List Int := (List.range m).map fun k => orb next k c
theorem orb_add (next : List Int) (c : Int) : ∀ a b, orb next (a + b) c = orb next a (orb next b c)
  | 0, b => by simp [orb]
  | a + 1, b => by rw [show a + 1 + b = (a + b) + 1 by omega, orb, orb_add next c a b, orb]
theorem orb_stop (next : List Int) : ∀ k, orb next k (-1) = -1
  | 0 => rfl
  | k + 1 => by rw [orb, orb_stop next k]; simp [nx]
def Cells (next : List Int) : Prop := ∀ x ∈ next, -1 ≤ x ∧ x < (next.length : Int)
theorem nx_in {next : List Int} (hC : Cells next) {c : Int} (h : -1 ≤ c ∧ c < (next.length : Int)) : -1 ≤ nx next c ∧ nx next c < (next.length : Int) := by
  unfold nx
  split
  · omega
  · have hlt : c.toNat < next.length := by omega
    have := hC _ (List.getElem_mem hlt)
    simpa [List.getD, List.getElem?_eq_getElem hlt] using this
theorem orb_in {next : List Int} (hC : Cells next) {c : Int} (h : -1 ≤ c ∧ c < (next.length : Int)) : ∀ k, -1 ≤ orb next k c ∧ orb next k c < (next.length : Int)
  | 0 => h
  | k + 1 => nx_in hC (orb_in hC h k)
theorem orbs_succ (next : List Int) (c : Int) (m : Nat) : orbs next c (m + 1) = orbs next c m ++ [orb next m c] := by simp [orbs, List.range_succ]
theorem orbs_mem {next : List Int} {c x : Int} {m : Nat} : x ∈ orbs next c m ↔ ∃ k, k < m ∧ orb next k c = x := by simp [orbs]
theorem fol_orb {next : List Int} (hC : Cells next) {c : Int} (hc : -1 ≤ c ∧ c < (next.length : Int)) : ∀ (f m : Nat), Seen next (orbs next c m) → next.length + 1 ≤ f + m →
    ∃ m', fol next f (orb next m c) (orbs next c m) = .inl (orbs next c m') ∧ (orb next m' c = -1 ∨ ∃ k, k < m' ∧ orb next k c = orb next m' c)
  | 0, m, hS, hf => by
    have := hS.len
    simp only [orbs, List.length_map, List.length_range] at this
    omega
  | f + 1, m, hS, hf => by
    rw [fol]
    by_cases h1 : orb next m c = -1
    · exact ⟨m, by simp [h1], .inl h1⟩
    · rw [if_neg h1]
      by_cases h2 : orb next m c ∈ orbs next c m
      · exact ⟨m, by simp [h2], .inr (orbs_mem.1 h2)⟩
      · have h3 := orb_in hC hc m
        have h4 : 0 ≤ orb next m c ∧ orb next m c < (next.length : Int) := by omega
        rw [if_neg h2, if_pos h4, ← orbs_succ]
        have hn : next.getD (orb next m c).toNat 0 = orb next (m + 1) c := by rw [orb, nx, if_neg h1]
        rw [hn]
        exact fol_orb hC hc f (m + 1) (by rw [orbs_succ]; exact hS.push h2 h4) (by omega)
theorem folL_orb {next : List Int} (hC : Cells next) {c : Int} (hc : -1 ≤ c ∧ c < (next.length : Int)) : ∃ m, folL next c = orbs next c m ∧ (orb next m c = -1 ∨ ∃ k, k < m ∧ orb next k c = orb next m c) := by
  obtain ⟨m, h1, h2⟩ := fol_orb hC hc (next.length + 1) 0 ⟨by simp [orbs], by simp [orbs]⟩ (by omega)
  refine ⟨m, ?_, h2⟩
  unfold folL
  have : fol next (next.length + 1) c [] = .inl (orbs next c m) := by simpa [orbs, orb] using h1
  rw [this]
  rfl
theorem folL_mem {next : List Int} (hC : Cells next) {c : Int} (hc : -1 ≤ c ∧ c < (next.length : Int)) : ∀ (k : Nat), orb next k c ≠ -1 → orb next k c ∈ folL next c := by
  obtain ⟨m, h1, h2⟩ := folL_orb hC hc
  rw [h1]
  intro k
  induction k using Nat.strongRecOn with
  | _ k ih =>
    intro hk
    by_cases hlt : k < m
    · exact orbs_mem.2 ⟨k, hlt, rfl⟩
    · have e : orb next k c = orb next (k - m) (orb next m c) := by rw [← orb_add]; congr 1; omega
      rcases h2 with h2 | ⟨j, hj, h2⟩
      · rw [e, h2, orb_stop] at hk
        exact absurd rfl hk
      · rw [← h2, ← orb_add] at e
        rw [e] at hk ⊢
        exact ih _ (by omega) hk
theorem orb_per {next : List Int} {i : Int} {p : Nat} (h : orb next p i = i) : ∀ q, orb next (q * p) i = i
  | 0 => by simp [orb]
  | q + 1 => by rw [Nat.add_mul, Nat.one_mul, orb_add, h, orb_per h q]
def cyc (next : List Int) : Bool := (List.range next.length).any fun i => decide ((i : Int) ∈ folL next (nx next i))
def lastI (xs : List Int) : Int := xs.getD (xs.length - 1) 0
theorem acyc_iff {next : List Int} (hC : Cells next) : (∀ i : Nat, i < next.length → folL next i ≠ [] ∧ nx next (lastI (folL next i)) = -1) ↔ cyc next = false := by
  have hlast : ∀ i : Nat, i < next.length → ∃ m, folL next i = orbs next i (m + 1) ∧ nx next (lastI (folL next i)) = orb next (m + 1) i ∧ (orb next (m + 1) i = -1 ∨ ∃ k, k < m + 1 ∧ orb next k i = orb next (m + 1) i) := by
    intro i hi
    obtain ⟨m, h1, h2⟩ := folL_orb hC (c := i) (by omega)
    cases m with
    | zero =>
      rcases h2 with h2 | ⟨k, hk, _⟩
      · simp only [orb] at h2; omega
      · omega
    | succ m =>
      refine ⟨m, h1, ?_, h2⟩
      rw [h1]
      have : lastI (orbs next i (m + 1)) = orb next m i := by
        unfold lastI
        rw [orbs_succ]
        simp [List.getD]
      rw [this]
      rfl
  constructor
  · intro hA
    unfold cyc
    rw [List.any_eq_false]
    intro i hi
    simp only [List.mem_range] at hi
    simp only [decide_eq_true_eq]
    intro hm
    obtain ⟨m, _, h2, _⟩ := hlast i hi
    have h3 := (hA i hi).2
    rw [h2] at h3
    obtain ⟨m', h4, _⟩ := folL_orb hC (nx_in hC (c := i) (by omega))
    rw [h4, orbs_mem] at hm
    obtain ⟨k, _, hk⟩ := hm
    have h5 : orb next (k + 1) i = i := by rw [orb_add]; exact hk
    have h6 := orb_per h5 (m + 1)
    have h7 : orb next ((m + 1) * (k + 1)) i = orb next ((m + 1) * k) (orb next (m + 1) i) := by rw [← orb_add]; congr 1
    rw [h7, h3, orb_stop] at h6
    omega
  · intro hB i hi
    obtain ⟨m, h1, h2, h3⟩ := hlast i hi
    refine ⟨by rw [h1]; simp [orbs], ?_⟩
    rw [h2]
    rcases h3 with h3 | ⟨k, hk, h3⟩
    · exact h3
    · exfalso
      have hS : Seen next (orbs next i (m + 1)) := h1 ▸ folL_seen next i
      have hj := hS.rng (orb next m i) (orbs_mem.2 ⟨m, by omega, rfl⟩)
      have hB' := (List.any_eq_false.1 hB) (orb next m i).toNat (by simp only [List.mem_range]; omega)
      simp only [decide_eq_true_eq] at hB'
      rw [show ((orb next m i).toNat : Int) = orb next m i by omega] at hB'
      apply hB'
      have e1 : nx next (orb next m i) = orb next k i := h3.symm
      have e2 : orb next m i = orb next (m - k) (orb next k i) := by rw [← orb_add]; congr 1; omega
      rw [e1]
      have := folL_mem hC (orb_in hC (c := i) (by omega) k) (m - k) (by rw [← e2]; omega)
      rw [← e2] at this
      exact this
theorem small_fol {next : List Int} (hs : small next.length) (c : Int) : small (folL next c).length := Nat.le_trans (folL_len next c) hs
theorem impl_cyclic (h : THeap) (hs : small h.next.length) (hC : Cells h.next) : impl_Heap_isCyclic h = some (cyc h.next) := by
  unfold impl_Heap_isCyclic
  have hs' := hs
  unfold small at hs'
  have key : Tot (iter (ρ := (Bool) ⊕ (Unit)) (fun s_1 : Int =>
      cond (ltI s_1 (h.next.length : Int))
        ((at? h.next s_1).bind fun e_12 =>
          (impl_Followed h e_12).bind fun y_17 =>
            (slices_Contains_int y_17 s_1).bind fun y_20 =>
              cond y_20
                (some (.inr (.inl true)))
                (some (.inl (addI s_1 1))))
        (some (.inr (.inr ())))) 0) (fun r => Sum.elim (fun r => some r) (fun _ => some false) r = some (cyc h.next)) := by
    refine Tot.loop (fun i s => s = (i : Int) ∧ ∀ j : Nat, j < i → ¬ (j : Int) ∈ folL h.next (nx h.next j)) h.next.length ⟨rfl, fun j hj => absurd hj (Nat.not_lt_zero _)⟩ fun i s hI hi => ?_
    obtain ⟨rfl, hI⟩ := hI
    simp only [ltI, cond_dec, at_nat]
    by_cases hlt : i < h.next.length
    · have hn : nx h.next i = h.next[i] := by unfold nx; rw [if_neg (by omega)]; simp [List.getD, hlt]
      rw [if_pos (by omega), List.getElem?_eq_getElem hlt, addI_eq (by omega) (by omega)]
      simp only [Option.bind_some, impl_followed h hs, contains_int _ _ (small_fol hs _), ← hn]
      by_cases hm : (i : Int) ∈ folL h.next (nx h.next i)
      · simp only [hm, decide_true, cond_true]
        refine Tot.ret ?_
        simp only [Sum.elim_inr, Sum.elim_inl, Option.some.injEq]
        exact (List.any_eq_true.2 ⟨i, List.mem_range.2 hlt, by simpa using hm⟩).symm
      · simp only [hm, decide_false, cond_false]
        refine Tot.ret ⟨hlt, by simp, fun j hj => ?_⟩
        by_cases hji : j = i
        · subst hji; exact hm
        · exact hI j (by omega)
    · rw [if_neg (by omega)]
      refine Tot.ret ?_
      simp only [Sum.elim_inr, Option.some.injEq]
      refine (List.any_eq_false.2 fun j hj => ?_).symm
      have := hI j (by have := List.mem_range.1 hj; omega)
      simpa using this
  obtain ⟨r, h1, h2⟩ := key
  rw [h1]
  exact h2
theorem lastI_at {xs : List Int} (h : xs ≠ []) (hl : small xs.length) : at? xs (subI (xs.length : Int) 1) = some (lastI xs) := by
  have : 0 < xs.length := List.length_pos_iff.2 h
  unfold small at hl
  rw [subI_eq (by omega) (by omega)]
  unfold at? lastI
  rw [if_pos (by omega), show ((xs.length : Int) - 1).toNat = xs.length - 1 by omega]
  rw [List.getElem?_eq_getElem (by omega)]
  simp [List.getD, List.getElem?_eq_getElem (show xs.length - 1 < xs.length by omega)]
theorem lastI_mem {xs : List Int} (h : xs ≠ []) : lastI xs ∈ xs := by
  have : 0 < xs.length := List.length_pos_iff.2 h
  unfold lastI
  simp [List.getD, List.getElem?_eq_getElem (show xs.length - 1 < xs.length by omega)]
theorem spec_acyclic (h : THeap) (hs : small h.next.length) (hC : Cells h.next) : spec_l7Acyclic h = some (!cyc h.next) := by
  unfold spec_l7Acyclic
  have hs' := hs
  unfold small at hs'
  have key : Tot (iter (ρ := (Unit) ⊕ (Unit)) (fun s_1 : Int =>
      cond (ltI s_1 (h.next.length : Int))
        ((spec_Followed h s_1).bind fun y_11 =>
          cond (eqI (y_11.length : Int) 0)
            (some (.inr (.inl ())))
            ((at? y_11 (subI (y_11.length : Int) 1)).bind fun e_15 =>
              (at? h.next e_15).bind fun e_20 =>
                cond (neI e_20 (-1))
                  (some (.inr (.inl ())))
                  (some (.inl (addI s_1 1)))))
        (some (.inr (.inr ())))) 0) (fun r => Sum.elim (fun _ => some false) (fun _ => some true) r = some (!cyc h.next)) := by
    refine Tot.loop (fun i s => s = (i : Int) ∧ ∀ j : Nat, j < i → folL h.next j ≠ [] ∧ nx h.next (lastI (folL h.next j)) = -1) h.next.length ⟨rfl, fun j hj => absurd hj (Nat.not_lt_zero _)⟩ fun i s hI hi => ?_
    obtain ⟨rfl, hI⟩ := hI
    simp only [ltI, cond_dec]
    by_cases hlt : i < h.next.length
    · rw [if_pos (by omega), addI_eq (by omega) (by omega)]
      simp only [Option.bind_some, spec_followed h hs, eqI, neI, cond_dec, cond_ndec]
      by_cases he : folL h.next i = []
      · rw [if_pos (by simp [he])]
        refine Tot.ret ?_
        simp only [Sum.elim_inr, Sum.elim_inl, Option.some.injEq]
        cases hc : cyc h.next with
        | true => rfl
        | false => exact absurd he ((acyc_iff hC).2 hc i hlt).1
      · have hpos : 0 < (folL h.next i).length := List.length_pos_iff.2 he
        rw [if_neg (by omega), lastI_at he (small_fol hs _)]
        simp only [Option.bind_some]
        have hr := (folL_seen h.next i).rng _ (lastI_mem he)
        have hn : at? h.next (lastI (folL h.next i)) = some (nx h.next (lastI (folL h.next i))) := by
          rw [at_in hr, nx, if_neg (by omega)]
        rw [hn]
        simp only [Option.bind_some]
        by_cases hm : nx h.next (lastI (folL h.next i)) = -1
        · rw [if_pos hm]
          refine Tot.ret ⟨hlt, by simp, fun j hj => ?_⟩
          by_cases hji : j = i
          · subst hji; exact ⟨he, hm⟩
          · exact hI j (by omega)
        · rw [if_neg hm]
          refine Tot.ret ?_
          simp only [Sum.elim_inr, Sum.elim_inl, Option.some.injEq]
          cases hc : cyc h.next with
          | true => rfl
          | false => exact absurd ((acyc_iff hC).2 hc i hlt).2 hm
    · rw [if_neg (by omega)]
      refine Tot.ret ?_
      simp only [Sum.elim_inr, Option.some.injEq]
      rw [(acyc_iff hC).1 fun j hj => hI j (by omega)]
      rfl
  obtain ⟨r, h1, h2⟩ := key
  rw [h1]
  exact h2
end Go.Ev


namespace Go.Ev
theorem cells_of {h : THeap} (hc : cellsB h = true) : Cells h.next := by
  simp only [cellsB, Bool.and_eq_true, List.all_eq_true] at hc
  intro x hx
  have := hc.2 x hx
  simp only [inH, decide_eq_true_eq] at this
  omega
theorem ordL_len (next vars : List Int) : (ordL next vars).length ≤ next.length := (ordSeen next vars [] ⟨by simp, by simp⟩).len
def ownPlaces (xs : List Int) : Bool := (List.range xs.length).all fun i => decide (xs.getD i 0 = (i : Int))
theorem own_loop (xs : List Int) (hl : small xs.length) : Tot (iter (ρ := (Unit) ⊕ (Unit)) (fun s_18 : Int =>
                        cond (ltI s_18 (xs.length : Int))
                          ((at? xs s_18).bind fun e_29 =>
                            cond (neI e_29 s_18)
                              (some (.inr (.inl ())))
                              (some (.inl (addI s_18 1))))
                          (some (.inr (.inr ())))) 0) (fun r => r = if ownPlaces xs then .inr () else .inl ()) := by
  unfold small at hl
  refine Tot.loop (fun i s => s = (i : Int) ∧ ∀ j : Nat, j < i → xs.getD j 0 = (j : Int)) xs.length ⟨rfl, fun j hj => absurd hj (Nat.not_lt_zero _)⟩ fun i s hI hi => ?_
  obtain ⟨rfl, hI⟩ := hI
  simp only [ltI, neI, cond_dec, cond_ndec, at_nat]
  by_cases hlt : i < xs.length
  · have hg : xs.getD i 0 = xs[i] := by simp [List.getD, hlt]
    rw [if_pos (by omega), List.getElem?_eq_getElem hlt, addI_eq (by omega) (by omega)]
    simp only [Option.bind_some]
    by_cases hm : xs[i] = (i : Int)
    · rw [if_pos hm]
      refine Tot.ret ⟨hlt, by simp, fun j hj => ?_⟩
      by_cases hji : j = i
      · subst hji; rw [hg]; exact hm
      · exact hI j (by omega)
    · rw [if_neg hm]
      refine Tot.ret ?_
      have : ownPlaces xs = false := List.all_eq_false.2 ⟨i, List.mem_range.2 hlt, by simp only [hg, hm]; simp⟩
      simp only [Sum.elim_inr, this]
      rfl
  · rw [if_neg (by omega)]
    refine Tot.ret ?_
    have : ownPlaces xs = true := List.all_eq_true.2 fun j hj => by
      have := hI j (by have := List.mem_range.1 hj; omega)
      simpa using this
    simp only [Sum.elim_inr, this]
    rfl
def isHeapB (vars : Int) (h : THeap) : Bool := decide (1 ≤ vars ∧ vars ≤ 4) && decide ((h.vars.length : Int) = vars) && decide ((h.next.length : Int) ≤ 6) && cellsB h && !cyc h.next && (ownPlaces (ordL h.next h.vars) && decide ((ordL h.next h.vars).length = h.next.length))
theorem spec_isHeap (vars : Int) (h : THeap) : spec_IsHeap vars h = some (isHeapB vars h) := by
  unfold spec_IsHeap isHeapB
  rw [l1In_eq]
  simp only [Option.bind_some, cond_dec]
  by_cases h1 : 1 ≤ vars ∧ vars ≤ 4
  · rw [if_pos h1]
    simp only [h1, and_self, decide_true, Bool.true_and, neI, cond_ndec, ltI, cond_dec]
    by_cases h2 : (h.vars.length : Int) = vars
    · rw [if_pos h2]
      simp only [h2, decide_true, Bool.true_and]
      by_cases h3 : (h.next.length : Int) ≤ 6
      · rw [if_neg (by omega)]
        have hv : small h.vars.length := by unfold small; omega
        have hs : small h.next.length := by unfold small; omega
        simp only [h3, decide_true, Bool.true_and, l7Cells h hv hs, Option.bind_some]
        cases hc : cellsB h with
        | false => rfl
        | true =>
          simp only [cond_true, Bool.true_and, spec_acyclic h hs (cells_of hc), Option.bind_some]
          cases hy : cyc h.next with
          | true => rfl
          | false =>
            simp only [Bool.not_false, cond_true, Bool.true_and, l7Order h hv hs, Option.bind_some]
            have hol := ordL_len h.next h.vars
            obtain ⟨r, hr1, hr2⟩ := own_loop (ordL h.next h.vars) (by unfold small; omega)
            simp only [neI, ltI, cond_dec, cond_ndec] at hr1
            rw [hr1, hr2]
            cases ho : ownPlaces (ordL h.next h.vars) with
            | false => simp
            | true => simp [eqI]; omega
      · rw [if_pos (by omega)]
        simp [h3]
    · rw [if_neg h2]
      simp [h2]
  · rw [if_neg h1]
    simp [h1]
theorem impl_isHeap (vars : Int) (h : THeap) : impl_IsHeap vars h = some (isHeapB vars h) := by
  unfold impl_IsHeap isHeapB
  rw [within_eq]
  simp only [Option.bind_some, cond_dec]
  by_cases h1 : 1 ≤ vars ∧ vars ≤ 4
  · rw [if_pos h1]
    simp only [h1, and_self, decide_true, Bool.true_and, neI, cond_ndec, ltI, cond_dec]
    by_cases h2 : (h.vars.length : Int) = vars
    · rw [if_pos h2]
      simp only [h2, decide_true, Bool.true_and]
      by_cases h3 : (h.next.length : Int) ≤ 6
      · rw [if_neg (by omega)]
        have hv : small h.vars.length := by unfold small; omega
        have hs : small h.next.length := by unfold small; omega
        simp only [h3, decide_true, Bool.true_and, areCells h (by unfold small; simp only [List.length_append]; omega) hv hs, Option.bind_some]
        cases hc : cellsB h with
        | false => rfl
        | true =>
          simp only [cond_true, Bool.true_and, impl_cyclic h hs (cells_of hc), Option.bind_some]
          cases hy : cyc h.next with
          | true => rfl
          | false =>
            simp only [Bool.not_false, cond_false, Bool.true_and, met h hv hs, Option.bind_some]
            have hol := ordL_len h.next h.vars
            obtain ⟨r, hr1, hr2⟩ := own_loop (ordL h.next h.vars) (by unfold small; omega)
            simp only [neI, ltI, cond_dec, cond_ndec] at hr1
            rw [hr1, hr2]
            cases ho : ownPlaces (ordL h.next h.vars) with
            | false => simp
            | true => simp [eqI]; omega
      · rw [if_pos (by omega)]
        simp [h3]
    · rw [if_neg h2]
      simp [h2]
  · rw [if_neg h1]
    simp [h1]

def inn (vars : Int) (a : List Int) (bs : List (List Int)) : List THeap := bs.flatMap fun b => if isHeapB vars ⟨a, b⟩ then [⟨a, b⟩] else []
def ofCells (vars c : Nat) : List THeap := (lexF (upto (-1) (c + 1)) vars).flatMap fun a => inn vars a (lexF (upto (-1) (c + 1)) c)
def shF (vars cells : Nat) : List THeap := (List.range (cells + 1)).flatMap (ofCells vars)
theorem flatMap_bound {α β : Type} (xs : List α) (f : α → List β) (N : Nat) (h : ∀ x ∈ xs, (f x).length ≤ N) : (xs.flatMap f).length ≤ xs.length * N := by
  induction xs with
  | nil => simp
  | cons x xs ih =>
    have h1 := h x (List.mem_cons_self ..)
    have h2 := ih fun y hy => h y (List.mem_cons_of_mem _ hy)
    rw [List.flatMap_cons, List.length_append, List.length_cons, Nat.add_mul]
    omega
theorem inn_len (vars : Int) (a : List Int) (bs : List (List Int)) : (inn vars a bs).length ≤ bs.length := by
  have := flatMap_bound bs (fun b => if isHeapB vars ⟨a, b⟩ then [(⟨a, b⟩ : THeap)] else []) 1 fun x _ => by
    by_cases h : isHeapB vars ⟨a, x⟩ = true <;> simp [h]
  simpa [inn] using this
theorem ofCells_len (vars c : Nat) (hv : vars ≤ 4) (hc : c ≤ 3) : (ofCells vars c).length ≤ 400000 := by
  have h1 : (lexF (upto (-1) (c + 1)) vars).length ≤ 625 := by rw [lexF_len, upto_len]; exact pow_le (by omega) hv
  have h2 : (lexF (upto (-1) (c + 1)) c).length ≤ 625 := by rw [lexF_len, upto_len]; exact pow_le (by omega) (by omega)
  have h3 := flatMap_bound (lexF (upto (-1) (c + 1)) vars) (fun a => inn vars a (lexF (upto (-1) (c + 1)) c)) 625 fun x _ => Nat.le_trans (inn_len _ _ _) h2
  have h4 : (lexF (upto (-1) (c + 1)) vars).length * 625 ≤ 625 * 625 := Nat.mul_le_mul_right _ h1
  exact Nat.le_trans h3 (Nat.le_trans h4 (by decide))
theorem shF_len (vars cells : Nat) (hv : vars ≤ 4) (hc : cells ≤ 3) : (shF vars cells).length ≤ 1600000 := by
  have h := flatMap_bound (List.range (cells + 1)) (ofCells vars) 400000 fun x hx => ofCells_len vars x hv (by have := List.mem_range.1 hx; omega)
  simp only [List.length_range] at h
  exact Nat.le_trans h (by omega)
theorem clone_int (xs : List Int) (h : small xs.length) : slices_Clone_int xs = some xs := by
  unfold slices_Clone_int lib_Clone
  rw [room_small h (by omega)]
  rfl
theorem spec_smallHeaps (v c : Nat) (hv : 1 ≤ v ∧ v ≤ 4) (hc : c ≤ 3) : spec_SmallHeaps v c = some (shF v c) := by
  unfold spec_SmallHeaps
  rw [l1In_eq, l1In_eq]
  simp only [Option.bind_some, cond_dec]
  rw [if_pos (by omega), if_pos (by omega)]
  have key := loop_flat (fun (b : List THeap) i => (b, i)) 0 (List.range (c + 1)) (ofCells v) (acc := []) (step := fun s_9 : (List THeap) × Int =>
              cond (leI s_9.2 c)
                ((spec_l9Lists v (subI s_9.2 1)).bind fun y_20 =>
                  (spec_l9Lists s_9.2 (subI s_9.2 1)).bind fun y_23 =>
                    (iter (ρ := (List THeap)) (fun s_26 : (List THeap) × Int =>
                        cond (ltI s_26.2 (y_20.length : Int))
                          ((iter (ρ := (List THeap)) (fun s_40 : (List THeap) × Int =>
                              cond (ltI s_40.2 (y_23.length : Int))
                                ((at? y_20 s_26.2).bind fun e_55 =>
                                  (at? y_23 s_40.2).bind fun e_60 =>
                                    (spec_IsHeap v (⟨e_55, e_60⟩ : THeap)).bind fun y_66 =>
                                      cond y_66
                                        ((spec_l7Copy (⟨e_55, e_60⟩ : THeap)).bind fun y_70 =>
                                          (room (s_40.1.length + [y_70].length) 48).bind fun _ =>
                                            some (.inl (s_40.1 ++ [y_70], addI s_40.2 1)))
                                        (some (.inl (s_40.1, addI s_40.2 1))))
                                (some (.inr s_40.1))) (s_26.1, 0)).bind fun r_75 =>
                            some (.inl (r_75, addI s_26.2 1)))
                          (some (.inr s_26.1))) (s_9.1, 0)).bind fun r_86 =>
                      some (.inl (r_86, addI s_9.2 1)))
                (some (.inr s_9.1))) (fun i x b hx hb => ?_) (fun b => ?_)
  · rw [key]
    simp [shF]
  · obtain ⟨hi, rfl⟩ : i < c + 1 ∧ i = x := by
      have := List.getElem?_eq_some_iff.1 hx
      simpa using this
    have hsh := shF_len v c hv.2 hc
    unfold shF at hsh
    simp only [List.length_nil, Nat.zero_add] at hb
    have hb := Nat.le_trans hb hsh
    simp only [leI, cond_dec]
    rw [if_pos (by omega), l9Lists (i + 1) v (by omega) hv.2 _ _ rfl (by rw [subI_eq (by omega) (by omega)]; omega), l9Lists (i + 1) i (by omega) (by omega) _ _ (by omega) (by rw [subI_eq (by omega) (by omega)]; omega)]
    simp only [Option.bind_some]
    have hA := lexF_len (upto (-1) (i + 1)) v
    have hB := lexF_len (upto (-1) (i + 1)) i
    rw [upto_len] at hA hB
    have hA' : (i + 1) ^ v ≤ 625 := pow_le (by omega) hv.2
    have hB' : (i + 1) ^ i ≤ 625 := pow_le (by omega) (by omega)
    have hMa : ∀ y ∈ lexF (upto (-1) (i + 1)) v, y.length ≤ 4 := fun y hy => by have := (lexF_mem _ _ y hy).1; omega
    have hMb : ∀ y ∈ lexF (upto (-1) (i + 1)) i, y.length ≤ 4 := fun y hy => by have := (lexF_mem _ _ y hy).1; omega
    unfold ofCells at hb ⊢
    generalize hu : lexF (upto (-1) (i + 1)) v = as at *
    generalize hw : lexF (upto (-1) (i + 1)) i = bs at *
    have k2 := loop_flat (fun (b : List THeap) i => (b, i)) 0 as (fun a => inn v a bs) (acc := b) (step := fun s_26 : (List THeap) × Int =>
                        cond (ltI s_26.2 (as.length : Int))
                          ((iter (ρ := (List THeap)) (fun s_40 : (List THeap) × Int =>
                              cond (ltI s_40.2 (bs.length : Int))
                                ((at? as s_26.2).bind fun e_55 =>
                                  (at? bs s_40.2).bind fun e_60 =>
                                    (spec_IsHeap v (⟨e_55, e_60⟩ : THeap)).bind fun y_66 =>
                                      cond y_66
                                        ((spec_l7Copy (⟨e_55, e_60⟩ : THeap)).bind fun y_70 =>
                                          (room (s_40.1.length + [y_70].length) 48).bind fun _ =>
                                            some (.inl (s_40.1 ++ [y_70], addI s_40.2 1)))
                                        (some (.inl (s_40.1, addI s_40.2 1))))
                                (some (.inr s_40.1))) (s_26.1, 0)).bind fun r_75 =>
                            some (.inl (r_75, addI s_26.2 1)))
                          (some (.inr s_26.1))) (fun j a b' hj hb' => ?_) (fun b' => ?_)
    · rw [k2]
      simp only [Option.bind_some]
      rw [addI_eq (by omega) (by omega)]
    · have hjl := (List.getElem?_eq_some_iff.1 hj).1
      simp only [ltI, cond_dec]
      rw [if_pos (by omega)]
      have k3 := loop_flat (fun (b : List THeap) i => (b, i)) 0 bs (fun b => if isHeapB v ⟨a, b⟩ then [(⟨a, b⟩ : THeap)] else []) (acc := b') (step := fun s_40 : (List THeap) × Int =>
                              if s_40.2 < (bs.length : Int) then
                                ((at? as (0 + (j : Int))).bind fun e_55 =>
                                  (at? bs s_40.2).bind fun e_60 =>
                                    (spec_IsHeap v (⟨e_55, e_60⟩ : THeap)).bind fun y_66 =>
                                      cond y_66
                                        ((spec_l7Copy (⟨e_55, e_60⟩ : THeap)).bind fun y_70 =>
                                          (room (s_40.1.length + [y_70].length) 48).bind fun _ =>
                                            some (.inl (s_40.1 ++ [y_70], addI s_40.2 1)))
                                        (some (.inl (s_40.1, addI s_40.2 1))))
                                else (some (.inr s_40.1))) (fun q e b'' hq hb'' => ?_) (fun b'' => ?_)
      · rw [k3]
        simp only [Option.bind_some]
        rw [addI_eq (by omega) (by omega)]
        rfl
      · have hql := (List.getElem?_eq_some_iff.1 hq).1
        have ha := hMa a (List.mem_of_getElem? hj)
        have he := hMb e (List.mem_of_getElem? hq)
        simp only [Int.zero_add, at_nat, hj, hq, Option.bind_some, spec_isHeap]
        rw [if_pos (by omega), addI_eq (by omega) (by omega)]
        have hb3 : b''.length + (if isHeapB v ⟨a, e⟩ then [(⟨a, e⟩ : THeap)] else []).length ≤ b'.length + (inn v a bs).length := hb''
        have hb4 : b'.length + (inn v a bs).length ≤ b.length + (as.flatMap fun a => inn v a bs).length := hb'
        cases hh : isHeapB v ⟨a, e⟩ with
        | false => simp
        | true =>
          simp only [hh, if_true, List.length_singleton] at hb3
          unfold spec_l7Copy
          simp only [cond_true, if_true, List.length_nil, Nat.zero_add, List.length_singleton]
          rw [room_small (by omega) (by omega), Option.bind_some, room_small (by omega) (by omega), Option.bind_some, Option.bind_some, room_small (by omega) (by omega)]
          rfl
      · rw [if_neg (by omega)]
    · simp [ltI]
  · simp only [leI, cond_dec, List.length_range]
    rw [if_neg (by omega)]
end Go.Ev


namespace Go.Ev
theorem impl_own (h : THeap) (hv : small h.vars.length) (hs : small h.next.length) : impl_Heap_own h = some h := by
  unfold impl_Heap_own
  rw [clone_int _ hv, Option.bind_some, clone_int _ hs]
  rfl
theorem impl_smallHeaps (v c : Nat) (hv : 1 ≤ v ∧ v ≤ 4) (hc : c ≤ 3) : impl_SmallHeaps v c = some (shF v c) := by
  unfold impl_SmallHeaps
  rw [within_eq, within_eq]
  simp only [Option.bind_some, cond_dec]
  rw [if_pos (by omega), if_pos (by omega), addI_eq (a := (c : Int)) (b := 1) (by omega) (by omega)]
  have key := loop_flat (fun (b : List THeap) i => (b, i)) 0 (List.range (c + 1)) (ofCells v) (acc := []) (step := fun s_9 : (List THeap) × Int =>
              cond (ltI s_9.2 ((c : Int) + 1))
                ((impl_lists v s_9.2).bind fun y_20 =>
                  (iter (ρ := (List THeap)) (fun s_23 : (List THeap) × Int =>
                      cond (ltI s_23.2 (y_20.length : Int))
                        ((at? y_20 s_23.2).bind fun e_38 =>
                          (impl_lists s_9.2 s_9.2).bind fun y_43 =>
                            (iter (ρ := (List THeap)) (fun s_46 : (List THeap) × Int =>
                                cond (ltI s_46.2 (y_43.length : Int))
                                  ((at? y_43 s_46.2).bind fun e_65 =>
                                    (impl_IsHeap v (⟨e_38, e_65⟩ : THeap)).bind fun y_71 =>
                                      cond y_71
                                        ((impl_Heap_own (⟨e_38, e_65⟩ : THeap)).bind fun y_75 =>
                                          (room (s_46.1.length + [y_75].length) 48).bind fun _ =>
                                            some (.inl (s_46.1 ++ [y_75], addI s_46.2 1)))
                                        (some (.inl (s_46.1, addI s_46.2 1))))
                                  (some (.inr s_46.1))) (s_23.1, 0)).bind fun r_80 =>
                              some (.inl (r_80, addI s_23.2 1)))
                        (some (.inr s_23.1))) (s_9.1, 0)).bind fun r_92 =>
                    some (.inl (r_92, addI s_9.2 1)))
                (some (.inr s_9.1))) (fun i x b hx hb => ?_) (fun b => ?_)
  · rw [key]
    simp [shF]
  · obtain ⟨hi, rfl⟩ : i < c + 1 ∧ i = x := by
      have := List.getElem?_eq_some_iff.1 hx
      simpa using this
    have hsh := shF_len v c hv.2 hc
    unfold shF at hsh
    simp only [List.length_nil, Nat.zero_add] at hb
    have hb := Nat.le_trans hb hsh
    simp only [ltI, cond_dec]
    rw [if_pos (by omega), lists (i + 1) v (by omega) hv.2 _ _ rfl (by omega), lists (i + 1) i (by omega) (by omega) _ _ (by omega) (by omega)]
    simp only [Option.bind_some]
    have hA := lexF_len (upto (-1) (i + 1)) v
    have hB := lexF_len (upto (-1) (i + 1)) i
    rw [upto_len] at hA hB
    have hA' : (i + 1) ^ v ≤ 625 := pow_le (by omega) hv.2
    have hB' : (i + 1) ^ i ≤ 625 := pow_le (by omega) (by omega)
    have hMa : ∀ y ∈ lexF (upto (-1) (i + 1)) v, y.length ≤ 4 := fun y hy => by have := (lexF_mem _ _ y hy).1; omega
    have hMb : ∀ y ∈ lexF (upto (-1) (i + 1)) i, y.length ≤ 4 := fun y hy => by have := (lexF_mem _ _ y hy).1; omega
    unfold ofCells at hb ⊢
    generalize hu : lexF (upto (-1) (i + 1)) v = as at *
    generalize hw : lexF (upto (-1) (i + 1)) i = bs at *
    have k2 := loop_flat (fun (b : List THeap) i => (b, i)) 0 as (fun a => inn v a bs) (acc := b) (step := fun s_23 : (List THeap) × Int =>
                      if s_23.2 < (as.length : Int) then
                        ((at? as s_23.2).bind fun e_38 =>
                            (iter (ρ := (List THeap)) (fun s_46 : (List THeap) × Int =>
                                if s_46.2 < (bs.length : Int) then
                                  ((at? bs s_46.2).bind fun e_65 =>
                                    (impl_IsHeap v (⟨e_38, e_65⟩ : THeap)).bind fun y_71 =>
                                      cond y_71
                                        ((impl_Heap_own (⟨e_38, e_65⟩ : THeap)).bind fun y_75 =>
                                          (room (s_46.1.length + [y_75].length) 48).bind fun _ =>
                                            some (.inl (s_46.1 ++ [y_75], addI s_46.2 1)))
                                        (some (.inl (s_46.1, addI s_46.2 1))))
                                  else (some (.inr s_46.1))) (s_23.1, 0)).bind fun r_80 =>
                              some (.inl (r_80, addI s_23.2 1)))
                        else (some (.inr s_23.1))) (fun j a b' hj hb' => ?_) (fun b' => ?_)
    · rw [k2]
      simp only [Option.bind_some]
      rw [addI_eq (by omega) (by omega)]
    · have hjl := (List.getElem?_eq_some_iff.1 hj).1
      rw [if_pos (by omega)]
      simp only [Int.zero_add, at_nat, hj, Option.bind_some]
      have k3 := loop_flat (fun (b : List THeap) i => (b, i)) 0 bs (fun b => if isHeapB v ⟨a, b⟩ then [(⟨a, b⟩ : THeap)] else []) (acc := b') (step := fun s_46 : (List THeap) × Int =>
                                if s_46.2 < (bs.length : Int) then
                                  ((at? bs s_46.2).bind fun e_65 =>
                                    (impl_IsHeap v (⟨a, e_65⟩ : THeap)).bind fun y_71 =>
                                      cond y_71
                                        ((impl_Heap_own (⟨a, e_65⟩ : THeap)).bind fun y_75 =>
                                          (room (s_46.1.length + [y_75].length) 48).bind fun _ =>
                                            some (.inl (s_46.1 ++ [y_75], addI s_46.2 1)))
                                        (some (.inl (s_46.1, addI s_46.2 1))))
                                  else (some (.inr s_46.1))) (fun q e b'' hq hb'' => ?_) (fun b'' => ?_)
      · rw [k3]
        simp only [Option.bind_some]
        rw [addI_eq (by omega) (by omega)]
        rfl
      · have hql := (List.getElem?_eq_some_iff.1 hq).1
        have ha := hMa a (List.mem_of_getElem? hj)
        have he := hMb e (List.mem_of_getElem? hq)
        simp only [Int.zero_add, at_nat, hq, Option.bind_some, impl_isHeap]
        rw [if_pos (by omega), addI_eq (by omega) (by omega)]
        have hb3 : b''.length + (if isHeapB v ⟨a, e⟩ then [(⟨a, e⟩ : THeap)] else []).length ≤ b'.length + (inn v a bs).length := hb''
        have hb4 : b'.length + (inn v a bs).length ≤ b.length + (as.flatMap fun a => inn v a bs).length := hb'
        cases hh : isHeapB v ⟨a, e⟩ with
        | false => simp
        | true =>
          simp only [hh, if_true, List.length_singleton] at hb3
          rw [impl_own _ (by unfold small; simp only; omega) (by unfold small; simp only; omega)]
          simp only [cond_true, if_true, Option.bind_some, List.length_singleton]
          rw [room_small (by omega) (by omega)]
          rfl
      · rw [if_neg (by omega)]
    · rw [if_neg (by omega)]
  · simp only [ltI, cond_dec, List.length_range]
    rw [if_neg (by omega)]
def shL (v c : Int) : List THeap := if (1 ≤ v ∧ v ≤ 4) ∧ (0 ≤ c ∧ c ≤ 3) then shF v.toNat c.toNat else []
theorem shL_len (v c : Int) : (shL v c).length ≤ 1600000 := by
  unfold shL
  split
  · exact shF_len _ _ (by omega) (by omega)
  · simp
theorem spec_SH (v c : Int) : spec_SmallHeaps v c = some (shL v c) := by
  unfold shL
  split
  · rename_i h
    have := spec_smallHeaps v.toNat c.toNat (by omega) (by omega)
    rwa [show (v.toNat : Int) = v by omega, show (c.toNat : Int) = c by omega] at this
  · rename_i h
    unfold spec_SmallHeaps
    rw [l1In_eq, l1In_eq]
    simp only [Option.bind_some, cond_dec]
    by_cases h1 : 1 ≤ v ∧ v ≤ 4
    · rw [if_pos h1, if_neg (by omega)]
    · rw [if_neg h1]
theorem impl_SH (v c : Int) : impl_SmallHeaps v c = some (shL v c) := by
  unfold shL
  split
  · rename_i h
    have := impl_smallHeaps v.toNat c.toNat (by omega) (by omega)
    rwa [show (v.toNat : Int) = v by omega, show (c.toNat : Int) = c by omega] at this
  · rename_i h
    unfold impl_SmallHeaps
    rw [within_eq, within_eq]
    simp only [Option.bind_some, cond_dec]
    by_cases h1 : 1 ≤ v ∧ v ≤ 4
    · rw [if_pos h1, if_neg (by omega)]
    · rw [if_neg h1]
def tiny (h : THeap) : Prop := h.vars.length ≤ 4 ∧ h.next.length ≤ 6
theorem shF_tiny (v c : Nat) : ∀ h ∈ shF v c, tiny h := by
  intro h hm
  simp only [shF, ofCells, inn, List.mem_flatMap] at hm
  obtain ⟨_, _, a, _, b, _, hb⟩ := hm
  split at hb
  · rename_i hh
    simp only [List.mem_singleton] at hb
    subst hb
    simp only [isHeapB, Bool.and_eq_true, decide_eq_true_eq] at hh
    unfold tiny
    simp only
    omega
  · simp at hb
theorem shL_tiny (v c : Int) : ∀ h ∈ shL v c, tiny h := by
  unfold shL
  split
  · exact shF_tiny _ _
  · simp
end Go.Ev


namespace Go.Ev
theorem take_snoc1 {α : Type} {xs : List α} {i : Nat} (h : i < xs.length) : xs.take (i + 1) = xs.take i ++ [xs[i]] := by simp
def t3 (b : Bool) : Int := if b then 2 else 0
theorem l3Of_eq (b : Bool) : spec_l3Of b = some (t3 b) := by cases b <;> rfl
theorem truthOf_is (b : Bool) : impl_truthOf b = some (t3 b) := by cases b <;> rfl
def nodeOf (h : THeap) (i : Nat) : TNode := ⟨h.vars.map fun e => t3 (decide (e = (i : Int))), h.vars.map fun e => t3 (decide ((i : Int) ∈ folL h.next e)), t3 (decide (1 < ((posF (i : Int) 0 h.next).length : Int))), 0⟩
def arrowsOf (h : THeap) (i : Nat) : List Int := (List.range h.next.length).map fun j : Nat => t3 (decide (h.next.getD i 0 = (j : Int)))
def strOf (h : THeap) : TStructure :=
  if cellsB h then if h.next.length ≤ 10 then if 1 ≤ h.vars.length ∧ h.vars.length ≤ 4 then ⟨(List.range h.next.length).map (nodeOf h), (List.range h.next.length).flatMap (arrowsOf h)⟩ else ⟨[], []⟩ else ⟨[], []⟩ else ⟨[], []⟩
theorem arrowsOf_len (h : THeap) (i : Nat) : (arrowsOf h i).length = h.next.length := by simp [arrowsOf]
theorem flatMap_len {α β : Type} (xs : List α) (f : α → List β) (n : Nat) (h : ∀ x ∈ xs, (f x).length = n) : (xs.flatMap f).length = xs.length * n := by
  induction xs with
  | nil => simp
  | cons x xs ih =>
    rw [List.flatMap_cons, List.length_append, h x (List.mem_cons_self ..), ih fun y hy => h y (List.mem_cons_of_mem _ hy), List.length_cons, Nat.add_mul]
    omega
theorem arrows_len (h : THeap) (m : Nat) : ((List.range m).flatMap (arrowsOf h)).length = m * h.next.length := by
  have := flatMap_len (List.range m) (arrowsOf h) h.next.length fun x _ => arrowsOf_len h x
  simpa using this
theorem spec_structureOf (h : THeap) (hv : small h.vars.length) (hs : small h.next.length) : spec_StructureOf h = some (strOf h) := by
  unfold spec_StructureOf strOf
  simp only [l7Cells h hv hs, Option.bind_some, l1In_eq]
  cases hc : cellsB h with
  | false => rfl
  | true =>
    simp only [cond_true, if_true, ltI, cond_dec]
    by_cases h10 : h.next.length ≤ 10
    · rw [if_neg (by omega), if_pos h10]
      by_cases h4 : 1 ≤ h.vars.length ∧ h.vars.length ≤ 4
      · rw [if_pos (by omega), if_pos h4]
        refine Tot.eq (Tot.bind (P := (· = ((List.range h.next.length).map (nodeOf h), (List.range h.next.length).flatMap (arrowsOf h)))) (Tot.loop (fun i s => s = ((i : Int), (List.range i).map (nodeOf h), (List.range i).flatMap (arrowsOf h))) h.next.length rfl fun i s hI hi => ?_) fun r hr => by subst hr; exact Tot.ret rfl)
        subst hI
        by_cases hlt : i < h.next.length
        · simp only [if_pos (show (i : Int) < h.next.length by omega), positions h.next i hs, l3Of_eq, Option.bind_some]
          refine Tot.bind (P := (· = ((nodeOf h i).vars, (nodeOf h i).reach))) (Tot.loop (fun j s => s = ((j : Int), (h.vars.take j).map (fun e => t3 (decide (e = (i : Int)))), (h.vars.take j).map (fun e => t3 (decide ((i : Int) ∈ folL h.next e))))) h.vars.length (by simp) fun j s hJ hj => ?_) fun r hr => ?_
          · subst hJ
            by_cases hjl : j < h.vars.length
            · simp only [if_pos (show (j : Int) < h.vars.length by omega), at_nat, List.getElem?_eq_getElem hjl, Option.bind_some, spec_followed h hs, l7Has _ _ (small_fol hs _), List.length_map, List.length_take, List.length_singleton, eqI, l3Of_eq]
              rw [room_small (by omega) (by omega), Option.bind_some, Option.bind_some, addI_eq (by omega) (by omega)]
              exact Tot.ret ⟨hjl, by rw [take_snoc1 hjl]; simp only [List.map_append, List.map_cons, List.map_nil, Int.natCast_add, Int.cast_ofNat_Int]⟩
            · rw [if_neg (by simp only; omega)]
              have : j = h.vars.length := by omega
              subst this
              exact Tot.ret (by simp [nodeOf])
          · subst hr
            simp only [List.length_map, List.length_range, List.length_singleton]
            rw [room_small (by omega) (by omega), Option.bind_some]
            have hal := arrows_len h i
            have hal2 : i * h.next.length ≤ 10 * 10 := Nat.mul_le_mul (by omega) h10
            refine Tot.bind (P := (· = (List.range (i + 1)).flatMap (arrowsOf h))) (Tot.loop (fun j s => s = ((j : Int), (List.range i).flatMap (arrowsOf h) ++ (List.range j).map fun k : Nat => t3 (decide (h.next.getD i 0 = (k : Int))))) h.next.length (by simp) fun j s hJ hj => ?_) fun r hr => ?_
            · subst hJ
              by_cases hjl : j < h.next.length
              · have hg : h.next.getD i 0 = h.next[i] := by simp [List.getD, hlt]
                simp only [if_pos (show (j : Int) < h.next.length by omega), at_nat, List.getElem?_eq_getElem hlt, Option.bind_some, List.length_append, List.length_map, List.length_range, hal, List.length_singleton, eqI, l3Of_eq]
                rw [room_small (by omega) (by omega), Option.bind_some, addI_eq (by omega) (by omega)]
                exact Tot.ret ⟨hjl, by rw [List.range_succ, List.map_append, List.map_cons, List.map_nil, hg, List.append_assoc]; rfl⟩
              · rw [if_neg (by simp only; omega)]
                have : j = h.next.length := by omega
                subst this
                exact Tot.ret (by simp [List.range_succ, arrowsOf])
            · subst hr
              rw [addI_eq (by omega) (by omega)]
              exact Tot.ret ⟨hlt, by simp [List.range_succ, nodeOf]⟩
        · rw [if_neg (by simp only; omega)]
          have : i = h.next.length := by omega
          subst this
          exact Tot.ret rfl
      · rw [if_neg (by omega), if_neg h4]
    · rw [if_pos (by omega), if_neg h10]
theorem impl_structureOf (h : THeap) (hv : small h.vars.length) (hs : small h.next.length) (hvs : small (h.vars ++ h.next).length) : impl_StructureOf h = some (strOf h) := by
  unfold impl_StructureOf strOf
  simp only [areCells h hvs hv hs, Option.bind_some, within_eq]
  cases hc : cellsB h with
  | false => rfl
  | true =>
    simp only [cond_true, if_true, ltI, cond_dec]
    by_cases h10 : h.next.length ≤ 10
    · rw [if_neg (by omega), if_pos h10]
      by_cases h4 : 1 ≤ h.vars.length ∧ h.vars.length ≤ 4
      · rw [if_pos (by omega), if_pos h4]
        refine Tot.eq (Tot.bind (P := (· = ((List.range h.next.length).map (nodeOf h), (List.range h.next.length).flatMap (arrowsOf h)))) (Tot.loop (fun i s => s = ((i : Int), (List.range i).map (nodeOf h), (List.range i).flatMap (arrowsOf h))) h.next.length rfl fun i s hI hi => ?_) fun r hr => by subst hr; exact Tot.ret rfl)
        subst hI
        by_cases hlt : i < h.next.length
        · simp only [if_pos (show (i : Int) < h.next.length by omega), positions_eq, positions h.next i hs, truthOf_is, Option.bind_some]
          refine Tot.bind (P := (· = ((nodeOf h i).vars, (nodeOf h i).reach))) (Tot.loop (fun j s => s = ((j : Int), (h.vars.take j).map (fun e => t3 (decide (e = (i : Int)))), (h.vars.take j).map (fun e => t3 (decide ((i : Int) ∈ folL h.next e))))) h.vars.length (by simp) fun j s hJ hj => ?_) fun r hr => ?_
          · subst hJ
            by_cases hjl : j < h.vars.length
            · simp only [if_pos (show (j : Int) < h.vars.length by omega), at_nat, List.getElem?_eq_getElem hjl, Option.bind_some, impl_followed h hs, contains_int _ _ (small_fol hs _), List.length_map, List.length_take, List.length_singleton, eqI, truthOf_is]
              rw [room_small (by omega) (by omega), Option.bind_some, Option.bind_some, addI_eq (by omega) (by omega)]
              exact Tot.ret ⟨hjl, by rw [take_snoc1 hjl]; simp only [List.map_append, List.map_cons, List.map_nil, Int.natCast_add, Int.cast_ofNat_Int]⟩
            · rw [if_neg (by simp only; omega)]
              have : j = h.vars.length := by omega
              subst this
              exact Tot.ret (by simp [nodeOf])
          · subst hr
            simp only [List.length_map, List.length_range, List.length_singleton]
            rw [room_small (by omega) (by omega), Option.bind_some]
            have hal := arrows_len h i
            have hal2 : i * h.next.length ≤ 10 * 10 := Nat.mul_le_mul (by omega) h10
            refine Tot.bind (P := (· = (List.range (i + 1)).flatMap (arrowsOf h))) (Tot.loop (fun j s => s = ((j : Int), (List.range i).flatMap (arrowsOf h) ++ (List.range j).map fun k : Nat => t3 (decide (h.next.getD i 0 = (k : Int))))) h.next.length (by simp) fun j s hJ hj => ?_) fun r hr => ?_
            · subst hJ
              by_cases hjl : j < h.next.length
              · have hg : h.next.getD i 0 = h.next[i] := by simp [List.getD, hlt]
                simp only [if_pos (show (j : Int) < h.next.length by omega), at_nat, List.getElem?_eq_getElem hlt, Option.bind_some, List.length_append, List.length_map, List.length_range, hal, List.length_singleton, eqI, truthOf_is]
                rw [room_small (by omega) (by omega), Option.bind_some, addI_eq (by omega) (by omega)]
                exact Tot.ret ⟨hjl, by rw [List.range_succ, List.map_append, List.map_cons, List.map_nil, hg, List.append_assoc]; rfl⟩
              · rw [if_neg (by simp only; omega)]
                have : j = h.next.length := by omega
                subst this
                exact Tot.ret (by simp [List.range_succ, arrowsOf])
            · subst hr
              rw [addI_eq (by omega) (by omega)]
              exact Tot.ret ⟨hlt, by simp [List.range_succ, nodeOf]⟩
        · rw [if_neg (by simp only; omega)]
          have : i = h.next.length := by omega
          subst this
          exact Tot.ret rfl
      · rw [if_neg (by omega), if_neg h4]
    · rw [if_pos (by omega), if_neg h10]
theorem strOf_len (h : THeap) : (strOf h).nodes.length ≤ 10 := by
  unfold strOf
  split
  · split
    · split
      · simpa
      · simp
    · simp
  · simp
end Go.Ev

