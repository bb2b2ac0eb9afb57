import Derived.Test.YtahcfnjgllpkdaaEvPL
import Derived.Test.YtahcfnjgllpkdaaEvP
namespace Go.Ev

/-! what is well formed: integers in range, lengths that a machine has -/
class Wf (α : Type) where
  wf : α → Prop
open Wf (wf)
instance : Wf Int := ⟨fun n => -9223372036854775808 ≤ n ∧ n ≤ 9223372036854775807⟩
instance : Wf Bool := ⟨fun _ => True⟩
instance : Wf ByteArray := ⟨fun s => s.size ≤ 9223372036854775807⟩
instance {α : Type} [Wf α] : Wf (List α) := ⟨fun l => l.length ≤ 9223372036854775807 ∧ ∀ x ∈ l, wf x⟩
theorem wf_int {n : Int} (h : wf n) : -9223372036854775808 ≤ n ∧ n ≤ 9223372036854775807 := h
theorem wf_list {α : Type} [Wf α] {l : List α} (h : wf l) : l.length ≤ 9223372036854775807 ∧ ∀ x ∈ l, wf x := h
theorem wf_str {s : ByteArray} (h : wf s) : s.size ≤ 9223372036854775807 := h
/-- what the law's own bound on the size of its arguments leaves: short rows -/
class Sm (α : Type) where
  sm : α → Prop
open Sm (sm)
instance : Sm Int := ⟨fun _ => True⟩
instance : Sm ByteArray := ⟨fun s => s.size ≤ 1048576⟩
instance {α : Type} [Sm α] : Sm (List α) := ⟨fun l => l.length ≤ 1048576 ∧ ∀ x ∈ l, sm x⟩

instance : Sm TStmt := ⟨fun x => sm x.a ∧ sm x.b⟩
instance : Sm TEdge := ⟨fun x => sm x.stmt⟩
instance : Sm THeap := ⟨fun x => sm x.vars ∧ sm x.next⟩
instance : Sm TProgram := ⟨fun x => sm x.vars ∧ sm x.edges⟩
instance : Sm TSession := ⟨fun x => sm x.prog ∧ sm x.start⟩
theorem sm_len {α : Type} [Sm α] {l : List α} (h : sm l) : l.length ≤ 1048576 := h.1
theorem sm_le {α : Type} [Sm α] {l : List α} (h : sm l) : l.length ≤ 9223372036854775806 := by have := h.1; omega
theorem sm_mem {α : Type} [Sm α] {l : List α} (h : sm l) {i : Nat} {x : α} (hx : l[i]? = some x) : sm x := h.2 x (List.mem_of_getElem? hx)
theorem lt_t {a b : Int} : ltI a b = true ↔ a < b := by simp [ltI]
theorem lt_f {a b : Int} : ltI a b = false ↔ b ≤ a := by simp [ltI]
theorem cond_lt {α : Type} (a b : Int) (x y : α) : cond (ltI a b) x y = if a < b then x else y := cond_dec _ _ _
theorem cond_le {α : Type} (a b : Int) (x y : α) : cond (leI a b) x y = if a ≤ b then x else y := cond_dec _ _ _
theorem cond_eq {α : Type} (a b : Int) (x y : α) : cond (eqI a b) x y = if a = b then x else y := cond_dec _ _ _
theorem cond_ne {α : Type} (a b : Int) (x y : α) : cond (neI a b) x y = if a = b then y else x := cond_ndec _ _ _

/-! rows that are equal -/
theorem eqRow {α : Type} [DecidableEq α] {xs ys : List α} {R : Option Bool} {step : Int → Option (Int ⊕ (Unit ⊕ Unit))} (hw : xs.length ≤ 9223372036854775806)
    (h1 : ∀ (i : Nat) x y, i < xs.length → xs[i]? = some x → ys[i]? = some y → step i = some (if x = y then .inl (addI i 1) else .inr (.inl ())))
    (h2 : step xs.length = some (.inr (.inr ())))
    (hR : R = cond (neI (xs.length : Int) (ys.length : Int)) (some false) ((iter step 0).bind fun r => Sum.elim (fun _ => some false) (fun _ => some true) r)) : R = some (decide (xs = ys)) := by
  subst hR
  rw [cond_ne]
  by_cases hl : xs.length = ys.length
  · rw [if_pos (by exact_mod_cast hl), iter_eq2 hl (Sum.inl ()) (Sum.inr ()) (fun i x y hx hy => ?_) h2]
    · by_cases h : xs = ys <;> simp [h]
    · have hi := (List.getElem?_eq_some_iff.1 hx).1
      rw [h1 i x y hi hx hy, addI_eq (by omega) (by omega)]
  · have : ¬ ((xs.length : Int) = ys.length) := by exact_mod_cast hl
    have h3 : xs ≠ ys := fun h => hl (by rw [h])
    rw [if_neg this]; simp [h3]

instance : DecidableEq TStmt := fun a b => by
  cases a; cases b
  simp only [TStmt.mk.injEq]
  infer_instance
instance : DecidableEq TEdge := fun a b => by
  cases a; cases b
  simp only [TEdge.mk.injEq]
  infer_instance
instance : DecidableEq THeap := fun a b => by
  cases a; cases b
  simp only [THeap.mk.injEq]
  infer_instance
instance : DecidableEq TProgram := fun a b => by
  cases a; cases b
  simp only [TProgram.mk.injEq]
  infer_instance
instance : DecidableEq TSession := fun a b => by
  cases a; cases b
  simp only [TSession.mk.injEq]
  infer_instance

theorem ba_beq (a b : ByteArray) : (a == b) = decide (a = b) := by
  cases a with
  | mk a =>
    cases b with
    | mk b =>
      have : ((⟨a⟩ : ByteArray) == ⟨b⟩) = (a == b) := rfl
      rw [this]
      by_cases h : a = b <;> simp [h]
theorem neTEdge_dec (a b : TEdge) : neTEdge a b = !decide (a = b) := by
  rcases a with ⟨a1, a2, a3, a4, a5⟩
  rcases b with ⟨b1, b2, b3, b4, b5⟩
  unfold neTEdge eqTEdge eqTStmt
  simp only [TEdge.mk.injEq, TStmt.mk.injEq, ba_beq]
  by_cases h1 : a1 = b1 <;> by_cases h2 : a2 = b2 <;> by_cases h3 : a3 = b3 <;> by_cases h4 : a4 = b4 <;> by_cases h5 : a5 = b5 <;> simp [h1, h2, h3, h4, h5]

theorem eqIntS_ok {a b : List Int} (h : a.length ≤ 9223372036854775806) : laws_eqIntS a b = some (decide (a = b)) := by
  refine eqRow h (fun i x y hi hx hy => ?_) ?_ (by unfold laws_eqIntS; rfl)
  · simp only [cond_lt, cond_ne, at_nat, hx, hy, Option.bind_some, Int.ofNat_lt, hi, if_true]
    by_cases he : x = y <;> simp [he]
  · simp [cond_lt]
theorem l7Same_ok {a b : List Int} (h : a.length ≤ 9223372036854775806) : spec_l7Same a b = some (decide (a = b)) := by
  refine eqRow h (fun i x y hi hx hy => ?_) ?_ (by unfold spec_l7Same; rfl)
  · simp only [cond_lt, cond_ne, at_nat, hx, hy, Option.bind_some, Int.ofNat_lt, hi, if_true]
    by_cases he : x = y <;> simp [he]
  · simp [cond_lt]
theorem Equal_int_ok {a b : List Int} (h : a.length ≤ 9223372036854775806) : slices_Equal_int a b = some (decide (a = b)) := by
  refine eqRow h (fun i x y hi hx hy => ?_) ?_ (by unfold slices_Equal_int; rfl)
  · simp only [cond_lt, cond_ne, at_nat, hx, hy, Option.bind_some, Int.ofNat_lt, hi, if_true]
    by_cases he : x = y <;> simp [he]
  · simp [cond_lt]
theorem Equal_string_ok {a b : List ByteArray} (h : a.length ≤ 9223372036854775806) : slices_Equal_string a b = some (decide (a = b)) := by
  refine eqRow h (fun i x y hi hx hy => ?_) ?_ (by unfold slices_Equal_string; rfl)
  · simp only [cond_lt, neS_dec, cond_ndec, at_nat, hx, hy, Option.bind_some, Int.ofNat_lt, hi, if_true]
    by_cases he : x = y <;> simp [he]
  · simp [cond_lt]
theorem Equal_Edge_ok {a b : List TEdge} (h : a.length ≤ 9223372036854775806) : slices_Equal_Edge a b = some (decide (a = b)) := by
  refine eqRow h (fun i x y hi hx hy => ?_) ?_ (by unfold slices_Equal_Edge; rfl)
  · simp only [cond_lt, neTEdge_dec, cond_ndec, at_nat, hx, hy, Option.bind_some, Int.ofNat_lt, hi, if_true]
    by_cases he : x = y <;> simp [he]
  · simp [cond_lt]
theorem eqStringS_ok {a b : List ByteArray} (h : a.length ≤ 9223372036854775806) : laws_eqStringS a b = some (decide (a = b)) := by
  refine eqRow h (fun i x y hi hx hy => ?_) ?_ (by unfold laws_eqStringS; rfl)
  · simp only [cond_lt, neS_dec, cond_ndec, at_nat, hx, hy, Option.bind_some, Int.ofNat_lt, hi, if_true]
    by_cases he : x = y <;> simp [he]
  · simp [cond_lt]
theorem eqStmt_ok (a b : TStmt) : laws_eqStmt a b = some (decide (a = b)) := by
  unfold laws_eqStmt
  rcases a with ⟨a1, a2, a3⟩
  rcases b with ⟨b1, b2, b3⟩
  simp only [cond_ne, neS_dec, cond_ndec, TStmt.mk.injEq]
  by_cases h1 : a1 = b1 <;> by_cases h2 : a2 = b2 <;> by_cases h3 : a3 = b3 <;> simp [h1, h2, h3]
theorem eqEdge_ok (a b : TEdge) : laws_eqEdge a b = some (decide (a = b)) := by
  unfold laws_eqEdge
  rcases a with ⟨a1, a2, a3⟩
  rcases b with ⟨b1, b2, b3⟩
  simp only [cond_ne, eqStmt_ok, Option.bind_some, cond_dec, TEdge.mk.injEq]
  by_cases h1 : a1 = b1 <;> by_cases h2 : a2 = b2 <;> by_cases h3 : a3 = b3 <;> simp [h1, h2, h3]
theorem eqEdgeS_ok {a b : List TEdge} (h : a.length ≤ 9223372036854775806) : laws_eqEdgeS a b = some (decide (a = b)) := by
  refine eqRow h (fun i x y hi hx hy => ?_) ?_ (by unfold laws_eqEdgeS; rfl)
  · simp only [cond_lt, eqEdge_ok, cond_dec, at_nat, hx, hy, Option.bind_some, Int.ofNat_lt, hi, if_true]
    by_cases he : x = y <;> simp [he]
  · simp [cond_lt]
theorem eqHeap_ok {a b : THeap} (h : sm a) : laws_eqHeap a b = some (decide (a = b)) := by
  unfold laws_eqHeap
  rw [eqIntS_ok (sm_le h.1), eqIntS_ok (sm_le h.2)]
  rcases a with ⟨a1, a2⟩
  rcases b with ⟨b1, b2⟩
  simp only [Option.bind_some, cond_dec, THeap.mk.injEq]
  by_cases h1 : a1 = b1 <;> by_cases h2 : a2 = b2 <;> simp [h1, h2]
theorem eqHeapS_ok {a b : List THeap} (h : sm a) : laws_eqHeapS a b = some (decide (a = b)) := by
  refine eqRow (sm_le h) (fun i x y hi hx hy => ?_) ?_ (by unfold laws_eqHeapS; rfl)
  · simp only [cond_lt, eqHeap_ok (sm_mem h hx), cond_dec, at_nat, hx, hy, Option.bind_some, Int.ofNat_lt, hi, if_true]
    by_cases he : x = y <;> simp [he]
  · simp [cond_lt]
theorem eqProgram_ok {a b : TProgram} (h : sm a) : laws_eqProgram a b = some (decide (a = b)) := by
  unfold laws_eqProgram
  rw [eqStringS_ok (sm_le h.1), eqEdgeS_ok (sm_le h.2)]
  rcases a with ⟨a1, a2, a3⟩
  rcases b with ⟨b1, b2, b3⟩
  simp only [Option.bind_some, cond_dec, cond_ne, TProgram.mk.injEq]
  by_cases h1 : a1 = b1 <;> by_cases h2 : a2 = b2 <;> by_cases h3 : a3 = b3 <;> simp [h1, h2, h3]
theorem eqSession_ok {a b : TSession} (h : sm a) : laws_eqSession a b = some (decide (a = b)) := by
  unfold laws_eqSession
  rw [eqProgram_ok h.1, eqHeapS_ok h.2]
  rcases a with ⟨a1, a2⟩
  rcases b with ⟨b1, b2⟩
  simp only [Option.bind_some, cond_dec, TSession.mk.injEq]
  by_cases h1 : a1 = b1 <;> by_cases h2 : a2 = b2 <;> simp [h1, h2]

/-! copies -/
theorem roomI_is {n : Nat} {b : Nat} (h : n ≤ 1048576) (hb : b ≤ 1048576) : roomI (n : Int) b = some () := by
  unfold roomI
  have h1 : n * (b + 1) ≤ 1099512676352 := Nat.le_trans (Nat.mul_le_mul h (show b + 1 ≤ 1048577 by omega)) (by decide)
  have h2 : (n : Int) * ((b : Int) + 1) = ((n * (b + 1) : Nat) : Int) := by push_cast; rfl
  rw [if_pos]
  refine ⟨by omega, ?_⟩
  rw [h2]
  unfold maxBytes
  omega
theorem toRow {α β : Type} {xs : List α} {z : β} {b : Nat} {R : Option (List β)} {step : Int × List β → Option ((Int × List β) ⊕ List β)} (F : α → Option β) {ys : List β} (hF : xs.mapM F = some ys) (hw : xs.length ≤ 1048576) (hb : b ≤ 1048576)
    (h1 : ∀ (i : Nat) x y (o : List β), i < xs.length → xs[i]? = some x → F x = some y → (∃ q, o[i]? = some q) → step (i, o) = some (.inl (addI i 1, o.set i y)))
    (h2 : ∀ o, step (xs.length, o) = some (.inr o))
    (hR : R = (roomI (xs.length : Int) b).bind fun _ => (iter step (0, List.replicate (xs.length : Int).toNat z)).bind fun r => some r) : R = some ys := by
  subst hR
  rw [roomI_is hw hb, Option.bind_some, Int.toNat_natCast, iter_fill hF (fun i x y o hx hy ho => ?_) h2]
  · rfl
  · have hi := (List.getElem?_eq_some_iff.1 hx).1
    rw [h1 i x y o hi hx hy ⟨_, List.getElem?_eq_getElem ho⟩, addI_eq (by omega) (by omega)]
theorem toIntS_ok {a : List Int} (h : sm a) : laws_toIntS a = some a := by
  refine toRow (fun x => some x) (mapM_self fun _ _ => rfl) (sm_len h) (b := 8) (by omega) (fun i x y o hi hx hy ho => ?_) (fun o => ?_) (by unfold laws_toIntS; rfl)
  · obtain ⟨q, hq⟩ := ho
    cases hy
    simp only [cond_lt, at_nat, hx, hq, Int.ofNat_lt, hi, if_true, Option.bind_some, Int.toNat_natCast]
  · simp [cond_lt]
theorem toStringS_ok {a : List ByteArray} (h : sm a) : laws_toStringS a = some a := by
  refine toRow (fun x => some x) (mapM_self fun _ _ => rfl) (sm_len h) (b := 16) (by omega) (fun i x y o hi hx hy ho => ?_) (fun o => ?_) (by unfold laws_toStringS; rfl)
  · obtain ⟨q, hq⟩ := ho
    cases hy
    simp only [cond_lt, at_nat, hx, hq, Int.ofNat_lt, hi, if_true, Option.bind_some, Int.toNat_natCast]
  · simp [cond_lt]
theorem toEdge_ok (a : TEdge) : laws_toEdge a = some a := rfl
theorem toEdgeS_ok {a : List TEdge} (h : sm a) : laws_toEdgeS a = some a := by
  refine toRow laws_toEdge (mapM_self fun x _ => toEdge_ok x) (sm_len h) (b := 56) (by omega) (fun i x y o hi hx hy ho => ?_) (fun o => ?_) (by unfold laws_toEdgeS; rfl)
  · obtain ⟨q, hq⟩ := ho
    simp only [cond_lt, at_nat, hx, hq, hy, Int.ofNat_lt, hi, if_true, Option.bind_some, Int.toNat_natCast]
  · simp [cond_lt]
theorem toProgram_ok {a : TProgram} (h : sm a) : laws_toProgram a = some a := by
  unfold laws_toProgram
  rw [toStringS_ok h.1, toEdgeS_ok h.2]; rfl
theorem toHeap_ok {a : THeap} (h : sm a) : laws_toHeap a = some a := by
  unfold laws_toHeap
  rw [toIntS_ok h.1, toIntS_ok h.2]; rfl
theorem toHeapS_ok {a : List THeap} (h : sm a) : laws_toHeapS a = some a := by
  refine toRow laws_toHeap (mapM_self fun x hx => toHeap_ok (h.2 x hx)) (sm_len h) (b := 48) (by omega) (fun i x y o hi hx hy ho => ?_) (fun o => ?_) (by unfold laws_toHeapS; rfl)
  · obtain ⟨q, hq⟩ := ho
    simp only [cond_lt, at_nat, hx, hq, hy, Int.ofNat_lt, hi, if_true, Option.bind_some, Int.toNat_natCast]
  · simp [cond_lt]
theorem toSession_ok {a : TSession} (h : sm a) : laws_toSession a = some a := by
  unfold laws_toSession
  rw [toProgram_ok h.1, toHeapS_ok h.2]; rfl

/-! the size of arguments -/
/-- 'left' after an argument: less than 0 if it was too long; else the argument is short -/
def SzOK (r : Option Int) (S : Prop) : Prop := ∃ n, r = some n ∧ n ≤ 1048576 ∧ (0 ≤ n → S) ∧ -9223372036854775807 ≤ n
theorem szRow {α : Type} {xs : List α} [Sm α] {R : Option Int} {step : Int × Int → Option ((Int × Int) ⊕ (Int ⊕ Int))} {left : Int} (F : α → Int → Option Int) (hl : 0 ≤ left ∧ left ≤ 1048576) (hw : xs.length ≤ 9223372036854775807)
    (hF : ∀ x ∈ xs, ∀ l, 0 ≤ l ∧ l ≤ 1048576 → SzOK (F x l) (sm x))
    (h1 : ∀ (i : Nat) x l n, i < xs.length → xs[i]? = some x → F x l = some n → step (l, i) = some (if n < 0 then .inr (.inl (-1)) else .inl (n, addI i 1)))
    (h2 : ∀ l, step (l, xs.length) = some (.inr (.inr l)))
    (hR : R = cond (ltI (subI left (xs.length : Int)) 0) (some (-1)) ((iter step (subI left (xs.length : Int), 0)).bind fun r => Sum.elim (fun r => some r) (fun r => some r) r)) : SzOK R (sm xs) := by
  subst hR
  rw [subI_eq (by omega) (by omega), cond_lt]
  by_cases h : left - (xs.length : Int) < 0
  · rw [if_pos h]
    exact ⟨-1, rfl, by omega, by omega, by omega⟩
  · rw [if_neg h]
    have key : ∀ (s : List α) (i : Nat) (l : Int), xs.drop i = s → i + s.length = xs.length → 0 ≤ l ∧ l ≤ 1048576 → ∃ r, iter step (l, (i : Int)) = some r ∧ ((r = .inl (-1)) ∨ (∃ n, r = .inr n ∧ 0 ≤ n ∧ n ≤ 1048576 ∧ ∀ x ∈ s, sm x)) := by
      intro s
      induction s with
      | nil =>
        intro i l hs hi hl
        simp only [List.length_nil, Nat.add_zero] at hi
        subst hi
        exact ⟨_, iter_inr (h2 l), .inr ⟨l, rfl, hl.1, hl.2, by simp⟩⟩
      | cons x s ih =>
        intro i l hs hi hl
        have hx : xs[i]? = some x := by
          have := congrArg (fun l => l[0]?) hs
          simpa using this
        have hs2 : xs.drop (i + 1) = s := by
          have := congrArg List.tail hs
          simpa using this
        simp only [List.length_cons] at hi
        obtain ⟨n, hn, hn2, hn3, hn4⟩ := hF x (List.mem_of_getElem? hx) l hl
        have hst := h1 i x l n (by omega) hx hn
        by_cases hneg : n < 0
        · rw [if_pos hneg] at hst
          exact ⟨_, iter_inr hst, .inl rfl⟩
        · rw [if_neg hneg] at hst
          rw [iter_inl hst, addI_eq (by omega) (by omega)]
          obtain ⟨r, hr, h3⟩ := ih (i + 1) n hs2 (by omega) ⟨by omega, hn2⟩
          refine ⟨r, hr, ?_⟩
          rcases h3 with h3 | ⟨n', e, h4, h5, h6⟩
          · exact .inl h3
          · refine .inr ⟨n', e, h4, h5, fun y hy => ?_⟩
            rcases List.mem_cons.1 hy with rfl | hy
            · exact hn3 (by omega)
            · exact h6 y hy
    obtain ⟨r, hr, h3⟩ := key xs 0 (left - xs.length) rfl (by simp) ⟨by omega, by omega⟩
    have hr' : iter step (left - (xs.length : Int), 0) = some r := hr
    rw [hr']
    rcases h3 with rfl | ⟨n, rfl, h4, h5, h6⟩
    · exact ⟨-1, rfl, by omega, by omega, by omega⟩
    · exact ⟨n, rfl, h5, fun _ => ⟨by omega, h6⟩, by omega⟩
theorem szIntS_ok {a : List Int} {left : Int} (hw : wf a) (hl : 0 ≤ left ∧ left ≤ 1048576) : SzOK (laws_szIntS a left) (sm a) := by
  unfold laws_szIntS
  have h := (wf_list hw).1
  rw [subI_eq (by omega) (by omega), cond_lt]
  by_cases h : left - (a.length : Int) < 0
  · rw [if_pos h]; exact ⟨-1, rfl, by omega, by omega, by omega⟩
  · rw [if_neg h]; exact ⟨_, rfl, by omega, fun _ => ⟨by omega, fun _ _ => trivial⟩, by omega⟩
theorem szStringS_ok {a : List ByteArray} {left : Int} (hw : wf a) (hl : 0 ≤ left ∧ left ≤ 1048576) : SzOK (laws_szStringS a left) (sm a) := by
  refine szRow (fun x l => some (subI l (x.size : Int))) hl (wf_list hw).1 (fun x hx l hl => ?_) (fun i x l n hi hx hn => ?_) (fun l => ?_) (by unfold laws_szStringS; rfl)
  · have := wf_str ((wf_list hw).2 x hx)
    rw [subI_eq (by omega) (by omega)]
    exact ⟨_, rfl, by omega, fun h => by show x.size ≤ 1048576; omega, by omega⟩
  · cases hn
    simp only [cond_lt, at_nat, hx, Int.ofNat_lt, hi, if_true, Option.bind_some]
    split <;> rfl
  · simp [cond_lt]
instance : Wf TStmt := ⟨fun x => wf x.kind ∧ wf x.a ∧ wf x.b⟩
instance : Wf TEdge := ⟨fun x => wf x.from_ ∧ wf x.to_ ∧ wf x.stmt⟩
instance : Wf THeap := ⟨fun x => wf x.vars ∧ wf x.next⟩
instance : Wf TProgram := ⟨fun x => wf x.vars ∧ wf x.points ∧ wf x.edges⟩
instance : Wf TSession := ⟨fun x => wf x.prog ∧ wf x.start⟩
theorem SzOK.imp {r : Option Int} {S T : Prop} (h : SzOK r S) (hi : S → T) : SzOK r T := by
  obtain ⟨n, h1, h2, h3, h4⟩ := h
  exact ⟨n, h1, h2, fun h => hi (h3 h), h4⟩
/-- one argument behind the other -/
theorem SzOK.two {r : Option Int} {S T : Prop} {k : Int → Option Int} (h : SzOK r S) (hk : ∀ n, 0 ≤ n ∧ n ≤ 1048576 → SzOK (k n) T) : SzOK (r.bind fun y => cond (ltI y 0) (some (-1)) (k y)) (S ∧ T) := by
  obtain ⟨n, rfl, h2, h3, h4⟩ := h
  rw [Option.bind_some, cond_lt]
  by_cases hn : n < 0
  · rw [if_pos hn]; exact ⟨-1, rfl, by omega, by omega, by omega⟩
  · rw [if_neg hn]
    exact (hk n ⟨by omega, h2⟩).imp fun t => ⟨h3 (by omega), t⟩
theorem SzOK.last {r : Option Int} {S : Prop} (h : SzOK r S) : SzOK (r.bind fun y => cond (ltI y 0) (some (-1)) (some y)) S := by
  obtain ⟨n, rfl, h2, h3, h4⟩ := h
  rw [Option.bind_some, cond_lt]
  by_cases hn : n < 0
  · rw [if_pos hn]; exact ⟨-1, rfl, by omega, by omega, by omega⟩
  · rw [if_neg hn]; exact ⟨n, rfl, h2, h3, h4⟩
theorem szStmt_ok {a : TStmt} {left : Int} (hw : wf a) (hl : 0 ≤ left ∧ left ≤ 1048576) : SzOK (laws_szStmt a left) (sm a) := by
  unfold laws_szStmt
  have h1 := wf_str hw.2.1
  have h2 := wf_str hw.2.2
  rw [subI_eq (a := left) (by omega) (by omega), cond_lt]
  by_cases h : left - (a.a.size : Int) < 0
  · rw [if_pos h]; exact ⟨-1, rfl, by omega, by omega, by omega⟩
  · rw [if_neg h, subI_eq (by omega) (by omega), cond_lt]
    by_cases h3 : left - (a.a.size : Int) - (a.b.size : Int) < 0
    · rw [if_pos h3]; exact ⟨-1, rfl, by omega, by omega, by omega⟩
    · rw [if_neg h3]
      exact ⟨_, rfl, by omega, fun _ => ⟨by show a.a.size ≤ 1048576; omega, by show a.b.size ≤ 1048576; omega⟩, by omega⟩
theorem szEdge_ok {a : TEdge} {left : Int} (hw : wf a) (hl : 0 ≤ left ∧ left ≤ 1048576) : SzOK (laws_szEdge a left) (sm a) := (szStmt_ok hw.2.2 hl).last
theorem szEdgeS_ok {a : List TEdge} {left : Int} (hw : wf a) (hl : 0 ≤ left ∧ left ≤ 1048576) : SzOK (laws_szEdgeS a left) (sm a) := by
  refine szRow laws_szEdge hl (wf_list hw).1 (fun x hx l hl => szEdge_ok ((wf_list hw).2 x hx) hl) (fun i x l n hi hx hn => ?_) (fun l => ?_) (by unfold laws_szEdgeS; rfl)
  · simp only [cond_lt, at_nat, hx, hn, Int.ofNat_lt, hi, if_true, Option.bind_some]
    split <;> rfl
  · simp [cond_lt]
theorem szProgram_ok {a : TProgram} {left : Int} (hw : wf a) (hl : 0 ≤ left ∧ left ≤ 1048576) : SzOK (laws_szProgram a left) (sm a) :=
  (szStringS_ok hw.1 hl).two fun n hn => (szEdgeS_ok hw.2.2 hn).last
theorem szHeap_ok {a : THeap} {left : Int} (hw : wf a) (hl : 0 ≤ left ∧ left ≤ 1048576) : SzOK (laws_szHeap a left) (sm a) :=
  (szIntS_ok hw.1 hl).two fun n hn => (szIntS_ok hw.2 hn).last
theorem szHeapS_ok {a : List THeap} {left : Int} (hw : wf a) (hl : 0 ≤ left ∧ left ≤ 1048576) : SzOK (laws_szHeapS a left) (sm a) := by
  refine szRow laws_szHeap hl (wf_list hw).1 (fun x hx l hl => szHeap_ok ((wf_list hw).2 x hx) hl) (fun i x l n hi hx hn => ?_) (fun l => ?_) (by unfold laws_szHeapS; rfl)
  · simp only [cond_lt, at_nat, hx, hn, Int.ofNat_lt, hi, if_true, Option.bind_some]
    split <;> rfl
  · simp [cond_lt]
theorem szSession_ok {a : TSession} {left : Int} (hw : wf a) (hl : 0 ≤ left ∧ left ≤ 1048576) : SzOK (laws_szSession a left) (sm a) :=
  (szProgram_ok hw.1 hl).two fun n hn => (szHeapS_ok hw.2 hn).last

/-! sessions -/
theorem spec_EqualHeap_ok {a b : THeap} (h : sm a) : spec_EqualHeap a b = some (decide (a = b)) := by
  unfold spec_EqualHeap
  rw [l7Same_ok (sm_le h.1), l7Same_ok (sm_le h.2)]
  rcases a with ⟨a1, a2⟩
  rcases b with ⟨b1, b2⟩
  simp only [Option.bind_some, cond_dec, THeap.mk.injEq]
  by_cases h1 : a1 = b1 <;> by_cases h2 : a2 = b2 <;> simp [h1, h2]
theorem impl_EqualHeap_ok {a b : THeap} (h : sm a) : impl_EqualHeap a b = some (decide (a = b)) := by
  unfold impl_EqualHeap
  rw [Equal_int_ok (sm_le h.1), Equal_int_ok (sm_le h.2)]
  rcases a with ⟨a1, a2⟩
  rcases b with ⟨b1, b2⟩
  simp only [Option.bind_some, cond_dec, THeap.mk.injEq]
  by_cases h1 : a1 = b1 <;> by_cases h2 : a2 = b2 <;> simp [h1, h2]
theorem impl_EqualProgram_ok {a b : TProgram} (h : sm a) : impl_EqualProgram a b = some (decide (a = b)) := by
  unfold impl_EqualProgram
  rw [Equal_string_ok (sm_le h.1), Equal_Edge_ok (sm_le h.2)]
  rcases a with ⟨a1, a2, a3⟩
  rcases b with ⟨b1, b2, b3⟩
  simp only [Option.bind_some, cond_dec, cond_eq, TProgram.mk.injEq]
  by_cases h1 : a1 = b1 <;> by_cases h2 : a2 = b2 <;> by_cases h3 : a3 = b3 <;> simp [h1, h2, h3]
theorem impl_EqualSession_ok {a b : TSession} (h : sm a) : impl_EqualSession a b = some (decide (a = b)) := by
  unfold impl_EqualSession
  have he : slices_EqualFunc_Heapimpl_Heap_impl_Heap_impl_Heap_ a.start b.start (fun x0 x1 => impl_EqualHeap x0 x1) = some (decide (a.start = b.start)) := by
    refine eqRow (sm_le h.2) (fun i x y hi hx hy => ?_) ?_ (by unfold slices_EqualFunc_Heapimpl_Heap_impl_Heap_impl_Heap_; rfl)
    · simp only [cond_lt, impl_EqualHeap_ok (sm_mem h.2 hx), cond_dec, at_nat, hx, hy, Option.bind_some, Int.ofNat_lt, hi, if_true]
      by_cases he : x = y <;> simp [he]
    · simp [cond_lt]
  rw [impl_EqualProgram_ok h.1, he]
  rcases a with ⟨a1, a2⟩
  rcases b with ⟨b1, b2⟩
  simp only [Option.bind_some, cond_dec, TSession.mk.injEq]
  by_cases h1 : a1 = b1 <;> by_cases h2 : a2 = b2 <;> simp [h1, h2]
theorem iter_eqRow {α : Type} {ρ : Type} [DecidableEq α] {xs ys : List α} (rf rt : ρ) {step : Int → Option (Int ⊕ ρ)} (hw : xs.length ≤ 9223372036854775806) (hl : xs.length = ys.length)
    (h1 : ∀ (i : Nat) x y, i < xs.length → xs[i]? = some x → ys[i]? = some y → step i = some (if x = y then .inl (addI i 1) else .inr rf))
    (h2 : step xs.length = some (.inr rt)) : iter step 0 = some (if xs = ys then rt else rf) :=
  iter_eq2 hl rf rt (fun i x y hx hy => by
    have hi := (List.getElem?_eq_some_iff.1 hx).1
    rw [h1 i x y hi hx hy, addI_eq (by omega) (by omega)]) h2
theorem spec_EqualProgram_ok {a b : TProgram} (h : sm a) : spec_EqualProgram a b = some (decide (a = b)) := by
  rcases a with ⟨a1, a2, a3⟩
  rcases b with ⟨b1, b2, b3⟩
  have hs1 : a1.length ≤ 9223372036854775806 := sm_le h.1
  have hs3 : a3.length ≤ 9223372036854775806 := sm_le h.2
  unfold spec_EqualProgram
  simp only [cond_ne, TProgram.mk.injEq]
  by_cases h2 : a2 = b2
  · rw [if_pos h2]
    by_cases l1 : a1.length = b1.length
    · rw [if_pos (by exact_mod_cast l1)]
      by_cases l3 : a3.length = b3.length
      · rw [if_pos (by exact_mod_cast l3)]
        rw [iter_eqRow (Sum.inl ()) (Sum.inr ()) hs1 l1 (fun i x y hi hx hy => by
            simp only [cond_lt, neS_dec, cond_ndec, at_nat, hx, hy, Option.bind_some, Int.ofNat_lt, hi, if_true]
            by_cases he : x = y <;> simp [he]) (by simp [cond_lt])]
        rw [iter_eqRow (Sum.inl false) (Sum.inr ()) hs3 l3 (fun i x y hi hx hy => by
            simp only [cond_lt, neTEdge_dec, cond_ndec, at_nat, hx, hy, Option.bind_some, Int.ofNat_lt, hi, if_true]
            by_cases he : x = y <;> simp [he]) (by simp [cond_lt])]
        by_cases h1 : a1 = b1 <;> by_cases h3 : a3 = b3 <;> simp [h1, h2, h3]
      · have : a3 ≠ b3 := fun e => l3 (by rw [e])
        rw [if_neg (by exact_mod_cast l3)]; simp [this]
    · have : a1 ≠ b1 := fun e => l1 (by rw [e])
      rw [if_neg (by exact_mod_cast l1)]; simp [this]
  · rw [if_neg h2]; simp [h2]
theorem spec_EqualSession_ok {a b : TSession} (h : sm a) : spec_EqualSession a b = some (decide (a = b)) := by
  unfold spec_EqualSession
  rw [spec_EqualProgram_ok h.1]
  have he : ∀ R, R = cond (neI (a.start.length : Int) (b.start.length : Int)) (some false)
      ((iter (ρ := (Unit) ⊕ (Unit)) (fun s_6 : Int =>
            cond (ltI s_6 (a.start.length : Int))
              ((at? a.start s_6).bind fun e_18 =>
                (at? b.start s_6).bind fun e_23 =>
                  (spec_EqualHeap e_18 e_23).bind fun y_28 =>
                    cond y_28
                      (some (.inl (addI s_6 1)))
                      (some (.inr (.inl ()))))
              (some (.inr (.inr ())))) 0).bind fun r => Sum.elim (fun _ => some false) (fun _ => some true) r) → R = some (decide (a.start = b.start)) := by
    intro R hR
    refine eqRow (sm_le h.2) (fun i x y hi hx hy => ?_) ?_ hR
    · simp only [cond_lt, spec_EqualHeap_ok (sm_mem h.2 hx), cond_dec, at_nat, hx, hy, Option.bind_some, Int.ofNat_lt, hi, if_true]
      by_cases he : x = y <;> simp [he]
    · simp [cond_lt]
  rw [Option.bind_some, cond_dec, he _ rfl]
  rcases a with ⟨a1, a2⟩
  rcases b with ⟨b1, b2⟩
  simp only [TSession.mk.injEq]
  by_cases h1 : a1 = b1 <;> by_cases h2 : a2 = b2 <;> simp [h1, h2]

/-- the law, in plain Lean -/
theorem law_EqualSession {a b : TSession} (ha : wf a) (hb : wf b) : laws_FnExactEqualSession a b = some true := by
  unfold laws_FnExactEqualSession
  obtain ⟨n, h1, h2, h3, h4⟩ := szSession_ok ha (left := 1048576) (by omega)
  rw [h1, Option.bind_some, cond_lt]
  by_cases hn : n < 0
  · rw [if_pos hn]
  · rw [if_neg hn]
    obtain ⟨m, m1, m2, m3, m4⟩ := szSession_ok hb (left := n) ⟨by omega, h2⟩
    rw [m1, Option.bind_some, cond_lt]
    by_cases hm : m < 0
    · rw [if_pos hm]
    · rw [if_neg hm]
      have sa := h3 (by omega)
      have sb := m3 (by omega)
      simp [toSession_ok sa, toSession_ok sb, spec_EqualSession_ok sa, impl_EqualSession_ok sa, eqSession_ok sa, eqSession_ok sb, neB]
end Go.Ev
