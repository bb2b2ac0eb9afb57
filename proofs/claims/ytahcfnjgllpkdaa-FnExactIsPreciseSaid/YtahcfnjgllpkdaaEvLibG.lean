import Derived.Test.YtahcfnjgllpkdaaEvPL
set_option linter.unusedSimpArgs false
set_option linter.unusedVariables false
set_option linter.unnecessarySimpa false
namespace Go.Ev
/-! what is well formed: integers in range, lengths that a machine has -/
class Wf (α : Type) where
  wf : α → Prop
open Wf (wf)
instance : Wf Int := ⟨fun n => -9223372036854775808 ≤ n ∧ n ≤ 9223372036854775807⟩
instance : Wf Bool := ⟨fun _ => True⟩
instance : Wf ByteArray := ⟨fun s => s.size ≤ 9223372036854775807⟩
instance {α : Type} [Wf α] : Wf (List α) := ⟨fun l => l.length ≤ 9223372036854775807 ∧ ∀ x ∈ l, wf x⟩
theorem wf_int {n : Int} (h : wf n) : -9223372036854775808 ≤ n ∧ n ≤ 9223372036854775807 := h
theorem wf_list {α : Type} [Wf α] {l : List α} (h : wf l) : l.length ≤ 9223372036854775807 ∧ ∀ x ∈ l, wf x := h
theorem wf_str {s : ByteArray} (h : wf s) : s.size ≤ 9223372036854775807 := h
/-- what the law's own bound on the size of its arguments leaves: short rows (sm); rows that a loop may count (lg) -/
class Sm (α : Type) where
  sm : α → Prop
  lg : α → Prop
  le : ∀ x, sm x → lg x
open Sm (sm lg)
instance : Sm Int := ⟨fun _ => True, fun _ => True, fun _ h => h⟩
instance : Sm ByteArray := ⟨fun s => s.size ≤ 1048576, fun _ => True, fun _ _ => trivial⟩
instance {α : Type} [Sm α] : Sm (List α) := ⟨fun l => l.length ≤ 1048576 ∧ ∀ x ∈ l, sm x, fun l => l.length ≤ 1000000000000 ∧ ∀ x ∈ l, lg x, fun l h => ⟨by have := h.1; omega, fun x hx => Sm.le x (h.2 x hx)⟩⟩
theorem sm_lg {α : Type} [Sm α] {x : α} (h : sm x) : lg x := Sm.le x h
theorem lg_le {α : Type} [Sm α] {l : List α} (h : lg l) : l.length ≤ 9223372036854775806 := by have := h.1; omega
theorem lg_mem {α : Type} [Sm α] {l : List α} (h : lg l) {i : Nat} {x : α} (hx : l[i]? = some x) : lg x := h.2 x (List.mem_of_getElem? hx)
theorem lg_ints {l : List Int} (h : l.length ≤ 1000000000000) : lg l := ⟨h, fun _ _ => trivial⟩
theorem sm_len {α : Type} [Sm α] {l : List α} (h : sm l) : l.length ≤ 1048576 := h.1
theorem sm_le {α : Type} [Sm α] {l : List α} (h : sm l) : l.length ≤ 9223372036854775806 := by have := h.1; omega
theorem sm_mem {α : Type} [Sm α] {l : List α} (h : sm l) {i : Nat} {x : α} (hx : l[i]? = some x) : sm x := h.2 x (List.mem_of_getElem? hx)
theorem lt_t {a b : Int} : ltI a b = true ↔ a < b := by simp [ltI]
theorem lt_f {a b : Int} : ltI a b = false ↔ b ≤ a := by simp [ltI]
theorem cond_lt {α : Type} (a b : Int) (x y : α) : cond (ltI a b) x y = if a < b then x else y := cond_dec _ _ _
theorem cond_le {α : Type} (a b : Int) (x y : α) : cond (leI a b) x y = if a ≤ b then x else y := cond_dec _ _ _
theorem cond_eq {α : Type} (a b : Int) (x y : α) : cond (eqI a b) x y = if a = b then x else y := cond_dec _ _ _
theorem cond_ne {α : Type} (a b : Int) (x y : α) : cond (neI a b) x y = if a = b then y else x := cond_ndec _ _ _

/-! rows that are equal -/
theorem eqRow {α : Type} [DecidableEq α] {xs ys : List α} {R : Option Bool} {step : Int → Option (Int ⊕ (Unit ⊕ Unit))} (hw : xs.length ≤ 9223372036854775806)
    (h1 : ∀ (i : Nat) x y, i < xs.length → xs[i]? = some x → ys[i]? = some y → step i = some (if x = y then .inl (addI i 1) else .inr (.inl ())))
    (h2 : step xs.length = some (.inr (.inr ())))
    (hR : R = cond (neI (xs.length : Int) (ys.length : Int)) (some false) ((iter step 0).bind fun r => Sum.elim (fun _ => some false) (fun _ => some true) r)) : R = some (decide (xs = ys)) := by
  subst hR
  rw [cond_ne]
  by_cases hl : xs.length = ys.length
  · rw [if_pos (by exact_mod_cast hl), iter_eq2 hl (Sum.inl ()) (Sum.inr ()) (fun i x y hx hy => ?_) h2]
    · by_cases h : xs = ys <;> simp [h]
    · have hi := (List.getElem?_eq_some_iff.1 hx).1
      rw [h1 i x y hi hx hy, addI_eq (by omega) (by omega)]
  · have : ¬ ((xs.length : Int) = ys.length) := by exact_mod_cast hl
    have h3 : xs ≠ ys := fun h => hl (by rw [h])
    rw [if_neg this]; simp [h3]

theorem ba_beq (a b : ByteArray) : (a == b) = decide (a = b) := by
  cases a with
  | mk a =>
    cases b with
    | mk b =>
      have : ((⟨a⟩ : ByteArray) == ⟨b⟩) = (a == b) := rfl
      rw [this]
      by_cases h : a = b <;> simp [h]
/-! copies -/
theorem roomI_is {n : Nat} {b : Nat} (h : n ≤ 1048576) (hb : b ≤ 1048576) : roomI (n : Int) b = some () := by
  unfold roomI
  have h1 : n * (b + 1) ≤ 1099512676352 := Nat.le_trans (Nat.mul_le_mul h (show b + 1 ≤ 1048577 by omega)) (by decide)
  have h2 : (n : Int) * ((b : Int) + 1) = ((n * (b + 1) : Nat) : Int) := by push_cast; rfl
  rw [if_pos]
  refine ⟨by omega, ?_⟩
  rw [h2]
  unfold maxBytes
  omega
theorem toRow {α β : Type} {xs : List α} {z : β} {b : Nat} {R : Option (List β)} {step : Int × List β → Option ((Int × List β) ⊕ List β)} (F : α → Option β) {ys : List β} (hF : xs.mapM F = some ys) (hw : xs.length ≤ 1048576) (hb : b ≤ 1048576)
    (h1 : ∀ (i : Nat) x y (o : List β), i < xs.length → xs[i]? = some x → F x = some y → (∃ q, o[i]? = some q) → step (i, o) = some (.inl (addI i 1, o.set i y)))
    (h2 : ∀ o, step (xs.length, o) = some (.inr o))
    (hR : R = (roomI (xs.length : Int) b).bind fun _ => (iter step (0, List.replicate (xs.length : Int).toNat z)).bind fun r => some r) : R = some ys := by
  subst hR
  rw [roomI_is hw hb, Option.bind_some, Int.toNat_natCast, iter_fill hF (fun i x y o hx hy ho => ?_) h2]
  · rfl
  · have hi := (List.getElem?_eq_some_iff.1 hx).1
    rw [h1 i x y o hi hx hy ⟨_, List.getElem?_eq_getElem ho⟩, addI_eq (by omega) (by omega)]
/-! the size of arguments -/
/-- 'left' after an argument: less than 0 if it was too long; else the argument is short -/
def SzOK (r : Option Int) (S : Prop) : Prop := ∃ n, r = some n ∧ n ≤ 1048576 ∧ (0 ≤ n → S) ∧ -9223372036854775807 ≤ n
theorem szRow {α : Type} {xs : List α} [Sm α] {R : Option Int} {step : Int × Int → Option ((Int × Int) ⊕ (Int ⊕ Int))} {left : Int} (F : α → Int → Option Int) (hl : 0 ≤ left ∧ left ≤ 1048576) (hw : xs.length ≤ 9223372036854775807)
    (hF : ∀ x ∈ xs, ∀ l, 0 ≤ l ∧ l ≤ 1048576 → SzOK (F x l) (sm x))
    (h1 : ∀ (i : Nat) x l n, i < xs.length → xs[i]? = some x → F x l = some n → step (l, i) = some (if n < 0 then .inr (.inl (-1)) else .inl (n, addI i 1)))
    (h2 : ∀ l, step (l, xs.length) = some (.inr (.inr l)))
    (hR : R = cond (ltI (subI left (xs.length : Int)) 0) (some (-1)) ((iter step (subI left (xs.length : Int), 0)).bind fun r => Sum.elim (fun r => some r) (fun r => some r) r)) : SzOK R (sm xs) := by
  subst hR
  rw [subI_eq (by omega) (by omega), cond_lt]
  by_cases h : left - (xs.length : Int) < 0
  · rw [if_pos h]
    exact ⟨-1, rfl, by omega, by omega, by omega⟩
  · rw [if_neg h]
    have key : ∀ (s : List α) (i : Nat) (l : Int), xs.drop i = s → i + s.length = xs.length → 0 ≤ l ∧ l ≤ 1048576 → ∃ r, iter step (l, (i : Int)) = some r ∧ ((r = .inl (-1)) ∨ (∃ n, r = .inr n ∧ 0 ≤ n ∧ n ≤ 1048576 ∧ ∀ x ∈ s, sm x)) := by
      intro s
      induction s with
      | nil =>
        intro i l hs hi hl
        simp only [List.length_nil, Nat.add_zero] at hi
        subst hi
        exact ⟨_, iter_inr (h2 l), .inr ⟨l, rfl, hl.1, hl.2, by simp⟩⟩
      | cons x s ih =>
        intro i l hs hi hl
        have hx : xs[i]? = some x := by
          have := congrArg (fun l => l[0]?) hs
          simpa using this
        have hs2 : xs.drop (i + 1) = s := by
          have := congrArg List.tail hs
          simpa using this
        simp only [List.length_cons] at hi
        obtain ⟨n, hn, hn2, hn3, hn4⟩ := hF x (List.mem_of_getElem? hx) l hl
        have hst := h1 i x l n (by omega) hx hn
        by_cases hneg : n < 0
        · rw [if_pos hneg] at hst
          exact ⟨_, iter_inr hst, .inl rfl⟩
        · rw [if_neg hneg] at hst
          rw [iter_inl hst, addI_eq (by omega) (by omega)]
          obtain ⟨r, hr, h3⟩ := ih (i + 1) n hs2 (by omega) ⟨by omega, hn2⟩
          refine ⟨r, hr, ?_⟩
          rcases h3 with h3 | ⟨n', e, h4, h5, h6⟩
          · exact .inl h3
          · refine .inr ⟨n', e, h4, h5, fun y hy => ?_⟩
            rcases List.mem_cons.1 hy with rfl | hy
            · exact hn3 (by omega)
            · exact h6 y hy
    obtain ⟨r, hr, h3⟩ := key xs 0 (left - xs.length) rfl (by simp) ⟨by omega, by omega⟩
    have hr' : iter step (left - (xs.length : Int), 0) = some r := hr
    rw [hr']
    rcases h3 with rfl | ⟨n, rfl, h4, h5, h6⟩
    · exact ⟨-1, rfl, by omega, by omega, by omega⟩
    · exact ⟨n, rfl, h5, fun _ => ⟨by omega, h6⟩, by omega⟩
theorem SzOK.imp {r : Option Int} {S T : Prop} (h : SzOK r S) (hi : S → T) : SzOK r T := by
  obtain ⟨n, h1, h2, h3, h4⟩ := h
  exact ⟨n, h1, h2, fun h => hi (h3 h), h4⟩
/-- one argument behind the other -/
theorem SzOK.two {r : Option Int} {S T : Prop} {k : Int → Option Int} (h : SzOK r S) (hk : ∀ n, 0 ≤ n ∧ n ≤ 1048576 → SzOK (k n) T) : SzOK (r.bind fun y => cond (ltI y 0) (some (-1)) (k y)) (S ∧ T) := by
  obtain ⟨n, rfl, h2, h3, h4⟩ := h
  rw [Option.bind_some, cond_lt]
  by_cases hn : n < 0
  · rw [if_pos hn]; exact ⟨-1, rfl, by omega, by omega, by omega⟩
  · rw [if_neg hn]
    exact (hk n ⟨by omega, h2⟩).imp fun t => ⟨h3 (by omega), t⟩
theorem SzOK.last {r : Option Int} {S : Prop} (h : SzOK r S) : SzOK (r.bind fun y => cond (ltI y 0) (some (-1)) (some y)) S := by
  obtain ⟨n, rfl, h2, h3, h4⟩ := h
  rw [Option.bind_some, cond_lt]
  by_cases hn : n < 0
  · rw [if_pos hn]; exact ⟨-1, rfl, by omega, by omega, by omega⟩
  · rw [if_neg hn]; exact ⟨n, rfl, h2, h3, h4⟩
theorem iter_eqRow {α : Type} {ρ : Type} [DecidableEq α] {xs ys : List α} (rf rt : ρ) {step : Int → Option (Int ⊕ ρ)} (hw : xs.length ≤ 9223372036854775806) (hl : xs.length = ys.length)
    (h1 : ∀ (i : Nat) x y, i < xs.length → xs[i]? = some x → ys[i]? = some y → step i = some (if x = y then .inl (addI i 1) else .inr rf))
    (h2 : step xs.length = some (.inr rt)) : iter step 0 = some (if xs = ys then rt else rf) :=
  iter_eq2 hl rf rt (fun i x y hx hy => by
    have hi := (List.getElem?_eq_some_iff.1 hx).1
    rw [h1 i x y hi hx hy, addI_eq (by omega) (by omega)]) h2
end Go.Ev
