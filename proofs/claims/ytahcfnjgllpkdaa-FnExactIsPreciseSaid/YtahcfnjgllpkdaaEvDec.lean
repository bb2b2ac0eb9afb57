import Derived.Test.YtahcfnjgllpkdaaEvRow
import Derived.Test.YtahcfnjgllpkdaaEvLibG
set_option linter.unusedSimpArgs false
set_option linter.unusedVariables false
set_option linter.unnecessarySimpa false
namespace Go.Ev
open Enc (enc)
open Wf (wf)

/-! an argument's cells, told as typed data -/
theorem typed_int {P : Program} {t : Nat} {ds : List D} (hu : P.underlying t = some (.int .i64)) (h : Typed P t ds) : ∃ n : Int, enc n = ds ∧ wf n := by
  cases h with
  | int n ht hn =>
    refine ⟨n, rfl, ?_⟩
    simp only [Lit.wf] at hn
    have : IntKind.i64.min ≤ n ∧ n ≤ IntKind.i64.max := by simpa using hn
    have e1 : IntKind.i64.min = -9223372036854775808 := by decide
    have e2 : IntKind.i64.max = 9223372036854775807 := by decide
    rw [e1, e2] at this
    exact this
  | bool b ht => rw [hu] at ht; cases ht
  | string s ht hs => rw [hu] at ht; cases ht
  | slice ht xs hx hxl hn => rw [hu] at ht; cases ht
  | struct ht xs hl hx hxl => rw [hu] at ht; cases ht
theorem typed_string {P : Program} {t : Nat} {ds : List D} (hu : P.underlying t = some .string) (h : Typed P t ds) : ∃ n : ByteArray, enc n = ds ∧ wf n := by
  cases h with
  | int n ht hn => rw [hu] at ht; cases ht
  | bool b ht => rw [hu] at ht; cases ht
  | string s ht hs => exact ⟨s, rfl, hs⟩
  | slice ht xs hx hxl hn => rw [hu] at ht; cases ht
  | struct ht xs hl hx hxl => rw [hu] at ht; cases ht
theorem typed_slice {α : Type} [Enc α] [Wf α] {P : Program} {t e : Nat} {ds : List D} (hu : P.underlying t = some (.slice e)) (he : ∀ ds, Typed P e ds → ∃ x : α, enc x = ds ∧ wf x) (h : Typed P t ds) : ∃ n : List α, enc n = ds ∧ wf n := by
  cases h with
  | int n ht hn => rw [hu] at ht; cases ht
  | bool b ht => rw [hu] at ht; cases ht
  | string s ht hs => rw [hu] at ht; cases ht
  | struct ht xs hl hx hxl => rw [hu] at ht; cases ht
  | slice ht xs hx hxl hn =>
    rw [hu] at ht
    cases ht
    have key : ∀ (l : List (List D)), (∀ x ∈ l, Typed P e x) → ∃ ys : List α, ys.length = l.length ∧ encL ys = l.flatten ∧ ∀ y ∈ ys, wf y := by
      intro l
      induction l with
      | nil => intro _; exact ⟨[], rfl, rfl, by simp⟩
      | cons d l ih =>
        intro hl
        obtain ⟨ys, h1, h2, h3⟩ := ih fun x hx => hl x (by simp [hx])
        obtain ⟨y, rfl, hy⟩ := he d (hl d (by simp))
        refine ⟨y :: ys, by simp [h1], by simp [h2], fun z hz => ?_⟩
        rcases List.mem_cons.1 hz with rfl | hz
        · exact hy
        · exact h3 z hz
    obtain ⟨ys, h1, h2, h3⟩ := key xs hx
    refine ⟨ys, by simp [h1, h2], ?_, h3⟩
    have : maxLen = 9223372036854775807 := by decide
    rw [h1, ← this]; exact hn
theorem typed_struct {P : Program} {t : Nat} {ds : List D} {fs : Array Field} (hu : P.underlying t = some (.struct fs)) (h : Typed P t ds) :
    ∃ xs : List (List D), xs.length = fs.toList.length ∧ xs.flatten = ds ∧ ∀ (i : Nat) (f : Field) x, fs.toList[i]? = some f → xs[i]? = some x → Typed P f.type x := by
  cases h with
  | int n ht hn => rw [hu] at ht; cases ht
  | bool b ht => rw [hu] at ht; cases ht
  | string s ht hs => rw [hu] at ht; cases ht
  | slice ht xs hx hxl hn => rw [hu] at ht; cases ht
  | struct ht xs hl hx hxl =>
    rw [hu] at ht
    cases ht
    exact ⟨xs, hl, rfl, hx⟩
end Go.Ev
