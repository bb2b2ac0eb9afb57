import Derived.Test.YtahcfnjgllpkdaaEvPT
import Derived.Test.YtahcfnjgllpkdaaEvLib
set_option linter.unusedSimpArgs false
set_option linter.unusedVariables false
set_option linter.unnecessarySimpa false
namespace Go.Ev
open Wf (wf)
open Sm (sm lg)
theorem okSet_of {set : List TStructure} (h : sm set) : okSet set := ⟨by have := h.1; unfold small; omega, fun t ht => by have := (h.2 t ht).1.1; unfold small; omega⟩
theorem spec_countDescribed (v : Int) (set : List TStructure) (c : Int) (hset : okSet set) : spec_CountDescribed v set c = some ((shOf v set c).length : Int) := by
  unfold spec_CountDescribed
  rw [spec_smallHeapsOf v set c hset]
  rfl
theorem impl_countDescribed (v : Int) (set : List TStructure) (c : Int) (hset : okSet set) : impl_CountDescribed v set c = some ((shOf v set c).length : Int) := by
  unfold impl_CountDescribed
  rw [impl_smallHeapsOf v set c hset]
  rfl
theorem law_CountDescribed {v : Int} {set : List TStructure} {c : Int} (_ : wf v) (hs : wf set) (_ : wf c) : laws_FnExactCountDescribed v set c = some true := by
  unfold laws_FnExactCountDescribed
  obtain ⟨n, h1, h2, h3, h4⟩ := szStructureS_ok hs (left := 1048576) (by omega)
  rw [h1, Option.bind_some, cond_lt]
  by_cases hn : n < 0
  · rw [if_pos hn]
  · rw [if_neg hn]
    have s1 := h3 (by omega)
    simp [toStructureS_ok s1, spec_countDescribed v set c (okSet_of s1), impl_countDescribed v set c (okSet_of s1), eqStructureS_ok (sm_lg s1), neI]
theorem law_IsPrecise {v : Int} {s : TStructure} {c : Int} (_ : wf v) (hs : wf s) (_ : wf c) : laws_FnExactIsPrecise v s c = some true := by
  unfold laws_FnExactIsPrecise
  obtain ⟨n, h1, h2, h3, h4⟩ := szStructure_ok hs (left := 1048576) (by omega)
  rw [h1, Option.bind_some, cond_lt]
  by_cases hn : n < 0
  · rw [if_pos hn]
  · rw [if_neg hn]
    have s1 := h3 (by omega)
    have hok : okSet [s] := ⟨by unfold small; simp, fun t ht => by simp at ht; subst ht; have := s1.1.1; unfold small; omega⟩
    simp [toStructure_ok s1, spec_IsPrecise, impl_IsPrecise, spec_countDescribed v [s] c hok, impl_countDescribed v [s] c hok, eqStructure_ok (sm_lg s1), neB]
end Go.Ev
