import Derived.Test.YtahcfnjgllpkdaaEvLibG
import Derived.Test.YtahcfnjgllpkdaaEvP
set_option linter.unnecessarySimpa false
set_option linter.unusedSimpArgs false
set_option linter.unusedVariables false
namespace Go.Ev
open Wf (wf)
open Sm (sm lg)
instance : Wf TNode := ⟨fun x => wf x.vars ∧ wf x.reach ∧ wf x.shared ∧ wf x.many⟩
instance : Sm TNode := ⟨fun x => sm x.vars ∧ sm x.reach, fun x => lg x.vars ∧ lg x.reach, fun x h => ⟨Sm.le _ h.1, Sm.le _ h.2⟩⟩
instance : DecidableEq TNode := fun a b => by
  cases a; cases b
  simp only [TNode.mk.injEq]
  infer_instance
instance : Wf TStructure := ⟨fun x => wf x.nodes ∧ wf x.next⟩
instance : Sm TStructure := ⟨fun x => sm x.nodes ∧ sm x.next, fun x => lg x.nodes ∧ lg x.next, fun x h => ⟨Sm.le _ h.1, Sm.le _ h.2⟩⟩
instance : DecidableEq TStructure := fun a b => by
  cases a; cases b
  simp only [TStructure.mk.injEq]
  infer_instance
theorem szIntS_ok {a : (List Int)} {left : Int} (hw : wf a) (hl : 0 ≤ left ∧ left ≤ 1048576) : SzOK (laws_szIntS a left) (sm a) := by
  unfold laws_szIntS
  have h := (wf_list hw).1
  rw [subI_eq (by omega) (by omega), cond_lt]
  by_cases h : left - (a.length : Int) < 0
  · rw [if_pos h]; exact ⟨-1, rfl, by omega, by omega, by omega⟩
  · rw [if_neg h]; exact ⟨_, rfl, by omega, fun _ => ⟨by omega, fun _ _ => trivial⟩, by omega⟩
theorem szNode_ok {a : TNode} {left : Int} (hw : wf a) (hl : 0 ≤ left ∧ left ≤ 1048576) : SzOK (laws_szNode a left) (sm a) := (szIntS_ok hw.1 hl).two fun n0 hn0 => (szIntS_ok hw.2.1 hn0).last
theorem szNodeS_ok {a : (List TNode)} {left : Int} (hw : wf a) (hl : 0 ≤ left ∧ left ≤ 1048576) : SzOK (laws_szNodeS a left) (sm a) := by
  refine szRow laws_szNode hl (wf_list hw).1 (fun x hx l hl => szNode_ok ((wf_list hw).2 x hx) hl) (fun i x l n hi hx hn => ?_) (fun l => ?_) (by unfold laws_szNodeS; rfl)
  · simp only [cond_lt, at_nat, hx, hn, Int.ofNat_lt, hi, if_true, Option.bind_some]
    split <;> rfl
  · simp [cond_lt]
theorem szStructure_ok {a : TStructure} {left : Int} (hw : wf a) (hl : 0 ≤ left ∧ left ≤ 1048576) : SzOK (laws_szStructure a left) (sm a) := (szNodeS_ok hw.1 hl).two fun n0 hn0 => (szIntS_ok hw.2 hn0).last
theorem szStructureS_ok {a : (List TStructure)} {left : Int} (hw : wf a) (hl : 0 ≤ left ∧ left ≤ 1048576) : SzOK (laws_szStructureS a left) (sm a) := by
  refine szRow laws_szStructure hl (wf_list hw).1 (fun x hx l hl => szStructure_ok ((wf_list hw).2 x hx) hl) (fun i x l n hi hx hn => ?_) (fun l => ?_) (by unfold laws_szStructureS; rfl)
  · simp only [cond_lt, at_nat, hx, hn, Int.ofNat_lt, hi, if_true, Option.bind_some]
    split <;> rfl
  · simp [cond_lt]
theorem toIntS_ok {a : (List Int)} (h : sm a) : laws_toIntS a = some a := by
  refine toRow (fun x => some x) (mapM_self (fun _ _ => rfl)) (sm_len h) (b := 8) (by omega) (fun i x y o hi hx hy ho => ?_) (fun o => ?_) (by unfold laws_toIntS; rfl)
  · obtain ⟨q, hq⟩ := ho
    cases hy
    simp only [cond_lt, at_nat, hx, hq, Int.ofNat_lt, hi, if_true, Option.bind_some, Int.toNat_natCast]
  · simp [cond_lt]
theorem toNode_ok {a : TNode} (h : sm a) : laws_toNode a = some a := by
  unfold laws_toNode
  rw [toIntS_ok h.1, toIntS_ok h.2]
  rfl
theorem toNodeS_ok {a : (List TNode)} (h : sm a) : laws_toNodeS a = some a := by
  refine toRow (laws_toNode) (mapM_self (fun x hx => toNode_ok (h.2 x hx))) (sm_len h) (b := 64) (by omega) (fun i x y o hi hx hy ho => ?_) (fun o => ?_) (by unfold laws_toNodeS; rfl)
  · obtain ⟨q, hq⟩ := ho
    simp only [cond_lt, at_nat, hx, hq, hy, Int.ofNat_lt, hi, if_true, Option.bind_some, Int.toNat_natCast]
  · simp [cond_lt]
theorem toStructure_ok {a : TStructure} (h : sm a) : laws_toStructure a = some a := by
  unfold laws_toStructure
  rw [toNodeS_ok h.1, toIntS_ok h.2]
  rfl
theorem toStructureS_ok {a : (List TStructure)} (h : sm a) : laws_toStructureS a = some a := by
  refine toRow (laws_toStructure) (mapM_self (fun x hx => toStructure_ok (h.2 x hx))) (sm_len h) (b := 48) (by omega) (fun i x y o hi hx hy ho => ?_) (fun o => ?_) (by unfold laws_toStructureS; rfl)
  · obtain ⟨q, hq⟩ := ho
    simp only [cond_lt, at_nat, hx, hq, hy, Int.ofNat_lt, hi, if_true, Option.bind_some, Int.toNat_natCast]
  · simp [cond_lt]
theorem eqIntS_ok {a b : (List Int)} (h : lg a) : laws_eqIntS a b = some (decide (a = b)) := by
  refine eqRow (lg_le h) (fun i x y hi hx hy => ?_) ?_ (by unfold laws_eqIntS; rfl)
  · simp only [cond_lt, cond_ne, at_nat, hx, hy, Option.bind_some, Int.ofNat_lt, hi, if_true]
    by_cases he : x = y <;> simp [he]
  · simp [cond_lt]
theorem eqNode_ok {a b : TNode} (h : lg a) : laws_eqNode a b = some (decide (a = b)) := by
  unfold laws_eqNode
  rw [eqIntS_ok h.1, eqIntS_ok h.2]
  rcases a with ⟨a0, a1, a2, a3⟩
  rcases b with ⟨b0, b1, b2, b3⟩
  simp only [Option.bind_some, cond_dec, cond_ne, neS_dec, cond_ndec, TNode.mk.injEq]
  by_cases h0 : a0 = b0 <;> by_cases h1 : a1 = b1 <;> by_cases h2 : a2 = b2 <;> by_cases h3 : a3 = b3 <;> simp [h0, h1, h2, h3]
theorem eqNodeS_ok {a b : (List TNode)} (h : lg a) : laws_eqNodeS a b = some (decide (a = b)) := by
  refine eqRow (lg_le h) (fun i x y hi hx hy => ?_) ?_ (by unfold laws_eqNodeS; rfl)
  · simp only [cond_lt, eqNode_ok (lg_mem h hx), cond_dec, at_nat, hx, hy, Option.bind_some, Int.ofNat_lt, hi, if_true]
    by_cases he : x = y <;> simp [he]
  · simp [cond_lt]
theorem eqStructure_ok {a b : TStructure} (h : lg a) : laws_eqStructure a b = some (decide (a = b)) := by
  unfold laws_eqStructure
  rw [eqNodeS_ok h.1, eqIntS_ok h.2]
  rcases a with ⟨a0, a1⟩
  rcases b with ⟨b0, b1⟩
  simp only [Option.bind_some, cond_dec, cond_ne, neS_dec, cond_ndec, TStructure.mk.injEq]
  by_cases h0 : a0 = b0 <;> by_cases h1 : a1 = b1 <;> simp [h0, h1]
theorem eqStructureS_ok {a b : (List TStructure)} (h : lg a) : laws_eqStructureS a b = some (decide (a = b)) := by
  refine eqRow (lg_le h) (fun i x y hi hx hy => ?_) ?_ (by unfold laws_eqStructureS; rfl)
  · simp only [cond_lt, eqStructure_ok (lg_mem h hx), cond_dec, at_nat, hx, hy, Option.bind_some, Int.ofNat_lt, hi, if_true]
    by_cases he : x = y <;> simp [he]
  · simp [cond_lt]
end Go.Ev
