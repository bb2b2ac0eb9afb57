import Derived.Test.YtahcfnjgllpkdaaEvA12
import Derived.Test.YtahcfnjgllpkdaaEvA10
import Derived.Test.YtahcfnjgllpkdaaProg
import Derived.KernelRfl
import Derived.WalkKit
import Derived.Deep.LoopGhost
import Derived.Lib.Walk
import Derived.Lib.SliceRun
import Derived.Laws.OwnMore
import Derived.Lib.AppendZerosOnto
import Derived.Test.YtahcfnjgllpkdaaEvA9
set_option linter.unusedSimpArgs false
set_option linter.unusedVariables false
set_option linter.unnecessarySimpa false
namespace Go.Ev
open Wf (wf)
open Sm (sm lg)
/-! all cases of focus -/
def casesL (s : TStructure) (b : Int) : List Int → List TStructure → List TStructure
  | [], acc => acc
  | t :: ts, acc => if (s.nodes.getD t.toNat zN).many = 1 then (if 10 ≤ s.nodes.length then [s] else casesL s b ts (acc ++ [toF s b t] ++ [toF (splitF s t) b s.nodes.length])) else casesL s b ts (acc ++ [toF s b t])
theorem splitF_nodes (s : TStructure) (t : Int) : (splitF s t).nodes.length = s.nodes.length + 1 := by simp [splitF]
theorem splitF_next (s : TStructure) (t : Int) : (splitF s t).next.length = (splitF s t).nodes.length * (splitF s t).nodes.length := by
  rw [splitF_nodes]
  have := flatMap_len (List.range (s.nodes.length + 1)) (fun i => (List.range (s.nodes.length + 1)).map fun j => nextV s (frm s.nodes.length t i) (frm s.nodes.length t j)) (s.nodes.length + 1) (fun x _ => by simp)
  simpa [splitF] using this
theorem short_split {s : TStructure} {t : Int} (h : shortS s) (hn : s.nodes.length ≤ 10) (ht : 0 ≤ t ∧ t < (s.nodes.length : Int)) : shortS (splitF s t) := by
  refine ⟨by rw [splitF_nodes]; unfold small; omega, ?_, fun y hy => ?_⟩
  · rw [splitF_next, splitF_nodes]
    have := Nat.mul_le_mul (show s.nodes.length + 1 ≤ 11 by omega) (show s.nodes.length + 1 ≤ 11 by omega)
    unfold small
    omega
  · have hmem : s.nodes.getD t.toNat zN ∈ s.nodes := by
      have : t.toNat < s.nodes.length := by omega
      simp [List.getD, this]
    rcases List.mem_append.1 hy with hy | hy
    · exact h.e y hy
    · simp only [List.mem_singleton] at hy
      subst hy
      exact h.e _ hmem
theorem sm_split {s : TStructure} {t : Int} (h : sm s) (hn : s.nodes.length ≤ 10) (ht : 0 ≤ t ∧ t < (s.nodes.length : Int)) : sm (splitF s t) := by
  refine ⟨⟨by rw [splitF_nodes]; omega, fun y hy => ?_⟩, ⟨?_, fun _ _ => trivial⟩⟩
  · have hmem : s.nodes.getD t.toNat zN ∈ s.nodes := by
      have : t.toNat < s.nodes.length := by omega
      simp [List.getD, this]
    rcases List.mem_append.1 hy with hy | hy
    · exact h.1.2 y hy
    · simp only [List.mem_singleton] at hy
      subst hy
      exact h.1.2 _ hmem
  · rw [splitF_next, splitF_nodes]
    have := Nat.mul_le_mul (show s.nodes.length + 1 ≤ 11 by omega) (show s.nodes.length + 1 ≤ 11 by omega)
    omega
/-- a structure, its node b and its targets, all in form -/
structure Foc (s : TStructure) (b : Int) (ts : List Int) : Prop where
  sh : shortS s
  n10 : s.nodes.length ≤ 10
  sq : s.next.length = s.nodes.length * s.nodes.length
  b : 0 ≤ b ∧ b < (s.nodes.length : Int)
  t : ∀ t ∈ ts, 0 ≤ t ∧ t < (s.nodes.length : Int)
  l : ts.length ≤ 10
theorem Foc.to {s : TStructure} {b : Int} {ts : List Int} (h : Foc s b ts) {t : Int} (ht : t < (s.nodes.length : Int)) : spec_l19To s b t = some (toF s b t) := spec_to s b t h.sh h.sq h.b ht
theorem Foc.to2 {s : TStructure} {b : Int} {ts : List Int} (h : Foc s b ts) {t : Int} (ht : t ∈ ts) : spec_l19To (splitF s t) b s.nodes.length = some (toF (splitF s t) b s.nodes.length) := by
  have h1 := h.t t ht
  exact spec_to _ _ _ (short_split h.sh h.n10 h1) (splitF_next s t) (by rw [splitF_nodes]; have := h.b; omega) (by rw [splitF_nodes]; omega)
theorem spec_cases {s : TStructure} {b : Int} {ts : List Int} (h : Foc s b ts) : spec_l19Cases s b ts = some (casesL s b ts [toF s b (-1)]) := by
  have hl := h.l
  have hn10 := h.n10
  unfold spec_l19Cases
  rw [h.to (by omega), Option.bind_some]
  refine Tot.eq (Tot.bind (P := fun r => Sum.elim id id r = casesL s b ts [toF s b (-1)]) (Tot.loop (fun i q => q.2 = (i : Int) ∧ q.1.length ≤ 1 + 2 * i ∧ casesL s b (ts.drop i) q.1 = casesL s b ts [toF s b (-1)]) ts.length ⟨rfl, by simp, rfl⟩ fun i q hI hi => ?_) fun r hr => ?_)
  · obtain ⟨acc, q2⟩ := q
    obtain ⟨rfl, hq1, hq2⟩ := hI
    simp only at hq1 hq2
    by_cases hlt : i < ts.length
    · have ht := h.t _ (List.getElem_mem hlt)
      rw [List.drop_eq_getElem_cons hlt, casesL] at hq2
      simp only [ltI, cond_dec, at_nat, List.getElem?_eq_getElem hlt, Option.bind_some, h.to ht.2, List.length_singleton, at_in' ht zN, eqI, leI]
      rw [if_pos (by omega), room_small (by omega) (by omega), Option.bind_some, addI_eq (by omega) (by omega)]
      by_cases hm : (s.nodes.getD ts[i].toNat zN).many = 1
      · rw [if_pos hm]
        rw [if_pos hm] at hq2
        by_cases h10 : 10 ≤ s.nodes.length
        · rw [if_pos (by omega), spec_copy s h.sh]
          rw [if_pos h10] at hq2
          exact Tot.ret hq2
        · rw [if_neg (by omega), spec_split s _ h.sh (by omega) ht, Option.bind_some, h.to2 (List.getElem_mem hlt), Option.bind_some, room_small (by simp only [List.length_append, List.length_singleton]; omega) (by omega)]
          rw [if_neg h10] at hq2
          exact Tot.ret ⟨hlt, by simp, by simp only [List.length_append, List.length_singleton]; omega, hq2⟩
      · rw [if_neg hm]
        rw [if_neg hm] at hq2
        exact Tot.ret ⟨hlt, by simp, by simp only [List.length_append, List.length_singleton]; omega, hq2⟩
    · simp only [ltI, cond_dec]
      rw [if_neg (by omega)]
      rw [List.drop_of_length_le (by omega), casesL] at hq2
      exact Tot.ret hq2
  · cases r <;> exact Tot.ret hr
def varsF (s : TStructure) : Int := match s.nodes with | [] => 0 | x :: _ => (x.vars.length : Int)
def focF (s : TStructure) (k : Int) : List TStructure :=
  if cellF s k < 0 then [s] else if isStrB (varsF s) s then
    (match (tgtF s (cellF s k)).find? fun t => decide (nextV s (cellF s k) t = 2) with | some t => [toF s (cellF s k) t] | none => casesL s (cellF s k) (tgtF s (cellF s k)) [toF s (cellF s k) (-1)]) else [s]
theorem cellF_lt (s : TStructure) (k : Int) : cellF s k < (s.nodes.length : Int) := by
  unfold cellF
  split
  · rename_i j hj
    have := (List.findIdx?_eq_some_iff_getElem.1 hj).1
    omega
  · omega
theorem vars_eq (s : TStructure) : spec_l15Vars s = some (varsF s) := by
  unfold spec_l15Vars varsF
  cases h : s.nodes with
  | nil => rfl
  | cons x xs =>
    simp only [eqI, cond_dec]
    rw [if_neg (by simp only [List.length_cons]; omega), show (0 : Int) = ((0 : Nat) : Int) from rfl, at_nat]
    rfl
theorem variables_eq : impl_variables = spec_l15Vars := rfl
theorem foc_of {s : TStructure} {k v : Int} (h : shortS s) (hb : ¬ cellF s k < 0) (hs : isStrB v s = true) : Foc s (cellF s k) (tgtF s (cellF s k)) := by
  simp only [isStrB, Bool.and_eq_true, decide_eq_true_eq] at hs
  exact ⟨h, hs.2.1, hs.2.2.1, ⟨by omega, cellF_lt s k⟩, fun t ht => tgt_mem ht, Nat.le_trans (tgt_len _ _) hs.2.1⟩
theorem find_first {α : Type} (xs : List α) (p : α → Bool) (d : α) {ρ : Type} (f : α → ρ) : (List.range xs.length).findSome? (fun i => if p (xs.getD i d) then some (f (xs.getD i d)) else none) = (xs.find? p).map f := by
  have h : (List.range xs.length).map (fun i => xs.getD i d) = xs := by
    apply List.ext_getElem
    · simp
    · intro i h1 h2
      simp [List.getD, h2]
  have h2 : (List.range xs.length).findSome? (fun i => if p (xs.getD i d) then some (f (xs.getD i d)) else none) = ((List.range xs.length).map (fun i => xs.getD i d)).findSome? (fun x => if p x then some (f x) else none) := by
    rw [List.findSome?_map]; rfl
  rw [h2, h]
  clear h h2
  induction xs with
  | nil => rfl
  | cons x xs ih => rw [List.findSome?_cons, List.find?_cons, ih]; cases hp : p x <;> simp
theorem spec_focusNext (s : TStructure) (k : Int) (h : shortS s) : spec_FocusNext s k = some (focF s k) := by
  unfold spec_FocusNext focF
  rw [spec_cell s k h]
  simp only [Option.bind_some, ltI, cond_dec]
  by_cases hb : cellF s k < 0
  · rw [if_pos hb, if_pos hb, spec_copy s h]; rfl
  · rw [if_neg hb, if_neg hb, vars_eq, Option.bind_some, spec_isStructure _ s h, Option.bind_some]
    cases hs : isStrB (varsF s) s with
    | false => rw [spec_copy s h]; rfl
    | true =>
      have F := foc_of h hb hs
      rw [cond_true, if_pos rfl, spec_targets s _ h.n, Option.bind_some]
      generalize cellF s k = b at *
      generalize hts : tgtF s b = ts at *
      have hl := F.l
      refine Tot.eq (Tot.bind (P := (· = firstR ((ts.find? fun t => decide (nextV s b t = 2)).map fun t => [toF s b t]) ())) (Tot.first ts.length (fun i => if (fun t => decide (nextV s b t = 2)) (ts.getD i 0) then some ((fun t => [toF s b t]) (ts.getD i 0)) else none) () (fun i hi => ?_) ?_ ?_) fun r hr => ?_)
      · have hm : ts.getD i 0 ∈ ts := by simp [List.getD, hi]
        simp only [getD_at hi 0, Option.bind_some, spec_nextOf s _ _ h.n, eqI, cond_dec, F.to (F.t _ hm).2]
        rw [if_pos (by omega), addI_eq (by omega) (by omega)]
        by_cases h2 : nextV s b (ts.getD i 0) = 2
        · rw [if_pos h2, if_pos (by simpa using h2)]; exact Tot.ret rfl
        · rw [if_neg h2, if_neg (by simpa using h2)]; exact Tot.ret rfl
      · rw [if_neg (by omega)]
        exact Tot.ret rfl
      · rw [find_first ts (fun t => decide (nextV s b t = 2)) 0 (fun t => [toF s b t])]
      · subst hr
        cases ts.find? fun t => decide (nextV s b t = 2) with
        | some t => exact Tot.ret rfl
        | none =>
          simp only [Option.map_none, firstR, Sum.elim_inr]
          rw [spec_cases F]
          exact Tot.ret rfl
theorem impl_focusNext (s : TStructure) (k : Int) (h : shortS s) : impl_FocusNext s k = some (focF s k) := by
  unfold impl_FocusNext focF
  rw [impl_focus s k h, variables_eq, vars_eq]
  simp only [Option.bind_some, impl_isStructure _ s h, ltI, cond_dec]
  cases hs : isStrB (varsF s) s with
  | false =>
    rw [impl_owns s h, cond_false]
    by_cases hb : cellF s k < 0
    · rw [if_pos hb]; rfl
    · rw [if_neg hb]; rfl
  | true =>
    rw [cond_true]
    by_cases hb : cellF s k < 0
    · rw [if_pos hb, if_pos hb, impl_owns s h]; rfl
    · have F := foc_of h hb hs
      rw [if_neg hb, if_neg hb, if_pos (by omega), if_pos rfl]
      generalize cellF s k = b at *
      generalize hts : tgtF s b = ts at *
      have hl := F.l
      have hn10 := F.n10
      refine Tot.eq (Tot.bind (P := (· = firstR ((ts.find? fun t => decide (nextV s b t = 2)).map fun t => [toF s b t]) ())) (Tot.first ts.length (fun i => if (fun t => decide (nextV s b t = 2)) (ts.getD i 0) then some ((fun t => [toF s b t]) (ts.getD i 0)) else none) () (fun i hi => ?_) ?_ ?_) fun r hr => ?_)
      · have hm : ts.getD i 0 ∈ ts := by simp [List.getD, hi]
        simp only [getD_at hi 0, Option.bind_some, impl_nextOf s _ _ h.n, eqI, cond_dec, pointing_eq s _ _ h, F.to (F.t _ hm).2]
        rw [if_pos (by omega), addI_eq (by omega) (by omega)]
        by_cases h2 : nextV s b (ts.getD i 0) = 2
        · rw [if_pos h2, if_pos (by simpa using h2)]; exact Tot.ret rfl
        · rw [if_neg h2, if_neg (by simpa using h2)]; exact Tot.ret rfl
      · rw [if_neg (by omega)]
        exact Tot.ret rfl
      · rw [find_first ts (fun t => decide (nextV s b t = 2)) 0 (fun t => [toF s b t])]
      · subst hr
        cases ts.find? fun t => decide (nextV s b t = 2) with
        | some t => exact Tot.ret rfl
        | none =>
          simp only [Option.map_none, firstR, Sum.elim_inr]
          rw [pointing_eq s _ _ h, F.to (by omega), Option.bind_some]
          refine Tot.bind (P := fun r => Sum.elim id id r = casesL s b ts [toF s b (-1)]) (Tot.loop (fun i q => q.2 = (i : Int) ∧ q.1.length ≤ 1 + 2 * i ∧ casesL s b (ts.drop i) q.1 = casesL s b ts [toF s b (-1)]) ts.length ⟨rfl, by simp, rfl⟩ fun i q hI hi => ?_) fun r hr => ?_
          · obtain ⟨acc, q2⟩ := q
            obtain ⟨rfl, hq1, hq2⟩ := hI
            simp only at hq1 hq2
            by_cases hlt : i < ts.length
            · have ht := F.t _ (List.getElem_mem hlt)
              rw [List.drop_eq_getElem_cons hlt, casesL] at hq2
              simp only [at_nat, List.getElem?_eq_getElem hlt, Option.bind_some, pointing_eq s _ _ h, F.to ht.2, List.length_singleton, at_in' ht zN, eqI, neI, cond_dec, cond_ndec]
              rw [if_pos (by omega), room_small (by omega) (by omega), Option.bind_some, addI_eq (by omega) (by omega)]
              by_cases hm : (s.nodes.getD ts[i].toNat zN).many = 1
              · rw [if_pos hm]
                rw [if_pos hm] at hq2
                by_cases h10 : 10 ≤ s.nodes.length
                · rw [if_pos (by omega), impl_owns s h]
                  rw [if_pos h10] at hq2
                  exact Tot.ret hq2
                · rw [if_neg (by omega), impl_split s _ h (by omega) ht, Option.bind_some, pointing_eq _ _ _ (short_split h hn10 ht), F.to2 (List.getElem_mem hlt), Option.bind_some, room_small (by simp only [List.length_append, List.length_singleton]; omega) (by omega)]
                  rw [if_neg h10] at hq2
                  exact Tot.ret ⟨hlt, by simp, by simp only [List.length_append, List.length_singleton]; omega, hq2⟩
              · rw [if_neg hm]
                rw [if_neg hm] at hq2
                exact Tot.ret ⟨hlt, by simp, by simp only [List.length_append, List.length_singleton]; omega, hq2⟩
            · simp only
              rw [if_neg (by omega)]
              rw [List.drop_of_length_le (by omega), casesL] at hq2
              exact Tot.ret hq2
          · cases r <;> exact Tot.ret hr
/-! what comes of focus is short -/
theorem casesL_all {s : TStructure} {b : Int} (hs : sm s) (hn : s.nodes.length ≤ 10) : ∀ (ts : List Int) (acc : List TStructure), (∀ t ∈ ts, 0 ≤ t ∧ t < (s.nodes.length : Int)) → (∀ x ∈ acc, sm x) → (∀ x ∈ casesL s b ts acc, sm x) ∧ (casesL s b ts acc).length ≤ 1 + acc.length + 2 * ts.length
  | [], acc, _, ha => ⟨ha, by rw [casesL]; omega⟩
  | t :: ts, acc, ht, ha => by
    have h1 := ht t (List.mem_cons_self ..)
    have hts := fun t' ht' => ht t' (List.mem_cons_of_mem _ ht')
    rw [casesL, List.length_cons]
    split
    · split
      · exact ⟨fun x hx => by simp only [List.mem_singleton] at hx; subst hx; exact hs, by simp; omega⟩
      · have := casesL_all (b := b) hs hn ts (acc ++ [toF s b t] ++ [toF (splitF s t) b s.nodes.length]) hts (fun x hx => by
          rcases List.mem_append.1 hx with hx | hx
          · rcases List.mem_append.1 hx with hx | hx
            · exact ha x hx
            · simp only [List.mem_singleton] at hx; subst hx; exact sm_to hs h1.2
          · simp only [List.mem_singleton] at hx; subst hx; exact sm_to (sm_split hs hn h1) (by rw [splitF_nodes]; omega))
        refine ⟨this.1, Nat.le_trans this.2 ?_⟩
        simp only [List.length_append, List.length_singleton]
        omega
    · have := casesL_all (b := b) hs hn ts (acc ++ [toF s b t]) hts (fun x hx => by
          rcases List.mem_append.1 hx with hx | hx
          · exact ha x hx
          · simp only [List.mem_singleton] at hx; subst hx; exact sm_to hs h1.2)
      refine ⟨this.1, Nat.le_trans this.2 ?_⟩
      simp only [List.length_append, List.length_singleton]
      omega
theorem focF_all {s : TStructure} (k : Int) (hs : sm s) : (∀ x ∈ focF s k, sm x) ∧ (focF s k).length ≤ 30 := by
  have h1 : (∀ x ∈ [s], sm x) ∧ [s].length ≤ 30 := ⟨fun x hx => by simp only [List.mem_singleton] at hx; subst hx; exact hs, by simp⟩
  unfold focF
  split
  · exact h1
  · rename_i hb
    split
    · rename_i hst
      have F := foc_of (short_sm hs) hb hst
      split
      · rename_i t ht
        have hm := List.mem_of_find?_eq_some ht
        exact ⟨fun x hx => by simp only [List.mem_singleton] at hx; subst hx; exact sm_to hs (F.t t hm).2, by simp⟩
      · have := casesL_all (b := cellF s k) hs F.n10 (tgtF s (cellF s k)) [toF s (cellF s k) (-1)] F.t (fun x hx => by simp only [List.mem_singleton] at hx; subst hx; exact sm_to hs (by omega))
        refine ⟨this.1, Nat.le_trans this.2 ?_⟩
        have := F.l
        simp only [List.length_singleton]
        omega
    · exact h1
theorem law_FocusNext {s : TStructure} {k : Int} (hw : wf s) (_ : wf k) : laws_FnExactFocusNext s k = some true := by
  unfold laws_FnExactFocusNext
  obtain ⟨n, h1, h2, h3, h4⟩ := szStructure_ok hw (left := 1048576) (by omega)
  rw [h1, Option.bind_some, cond_lt]
  by_cases hn : n < 0
  · rw [if_pos hn]
  · rw [if_neg hn]
    have s1 := h3 (by omega)
    obtain ⟨f1, f2⟩ := focF_all k s1
    have hlg : lg (focF s k) := ⟨by omega, fun x hx => sm_lg (f1 x hx)⟩
    have hcs := cnt_str s1
    have hb1 : (1 : Int) + cntF_markStructure s ≤ maxMark := by unfold maxMark cntF_markStructure; omega
    have hc := totC_le cntE_markStructureS 2200001048576 (focF s k) (fun x hx => cnt_str (f1 x hx))
    have hc2 : cntF_markStructureS (focF s k) ≤ 30 * 2200001048576 := Nat.le_trans hc (Nat.mul_le_mul_right _ f2)
    have hb2 : (1 : Int) + cntF_markStructureS (focF s k) ≤ maxMark := by unfold maxMark; omega
    have e1 := markStructure_snd s 1 (by omega) hb1
    have e2 := markStructureS_snd (focF s k) 1 (by omega) hb2
    have n1 : ltI (mkF_markStructure s 1).2 0 = false := by simp only [ltI, decide_eq_false_iff_not]; omega
    have n2 : ltI (mkF_markStructureS (focF s k) 1).2 0 = false := by simp only [ltI, decide_eq_false_iff_not]; omega
    simp [toStructure_ok s1, spec_focusNext s k (short_sm s1), impl_focusNext s k (short_sm s1), eqStructure_ok (sm_lg s1), eqStructureS_ok hlg, markO_some (sm_lg s1), markO_some hlg, n1, n2, heldStructureS_ok hlg (by omega) hb2, neI]
end Go.Ev

namespace Go.Proofs
open Go.Ev
@[simp] theorem ti_3 : ti Try.prog 3 = some { size := 1, bytes := 8, agg := false, elem := none, flds := [], zero := [.int .i64 0] } := by kernel_rfl
@[simp] theorem ti_43 : ti Try.prog 43 = some { size := 1, bytes := 24, agg := false, elem := some 141, flds := [], zero := [.slice none 0 0] } := by kernel_rfl
@[simp] theorem ti_44 : ti Try.prog 44 = some { size := 1, bytes := 24, agg := false, elem := some 3, flds := [], zero := [.slice none 0 0] } := by kernel_rfl
@[simp] theorem ti_46 : ti Try.prog 46 = some { size := 2, bytes := 48, agg := true, elem := none, flds := [(0, 43), (1, 44)], zero := [.slice none 0 0, .slice none 0 0] } := by kernel_rfl
@[simp] theorem ti_48 : ti Try.prog 48 = some { size := 1, bytes := 24, agg := false, elem := some 52, flds := [], zero := [.slice none 0 0] } := by kernel_rfl
@[simp] theorem ti_50 : ti Try.prog 50 = some { size := 1, bytes := 24, agg := false, elem := some 104, flds := [], zero := [.slice none 0 0] } := by kernel_rfl
@[simp] theorem ti_52 : ti Try.prog 52 = some { size := 2, bytes := 48, agg := true, elem := none, flds := [(0, 50), (1, 44)], zero := [.slice none 0 0, .slice none 0 0] } := by kernel_rfl
@[simp] theorem ti_104 : ti Try.prog 104 = some { size := 4, bytes := 64, agg := true, elem := none, flds := [(0, 44), (1, 44), (2, 3), (3, 3)], zero := [.slice none 0 0, .slice none 0 0, .int .i64 0, .int .i64 0] } := by kernel_rfl
@[simp] theorem ti_141 : ti Try.prog 141 = some { size := 4, bytes := 64, agg := true, elem := none, flds := [(0, 44), (1, 44), (2, 3), (3, 3)], zero := [.slice none 0 0, .slice none 0 0, .int .i64 0, .int .i64 0] } := by kernel_rfl
end Go.Proofs

namespace Go.Proofs
open Go.Ev Go.RowKit Go.Lib
theorem INFO3 : (Try.prog.info? 3).map (fun i => (i.zero, i.size, i.bytes)) = some (some (.int .i64 0), 1, 8) := by kernel_rfl
set_option maxHeartbeats 2000000 in
set_option maxRecDepth 100000 in
theorem clone106_nil (n c : Nat) (w : World) : Calls Try.prog 106 #[.slice none n c] w fun e w' => e = .returned (.slice none 0 0) ∧ w' = w := by
  have q44 : ∀ (w : World) (a : Option Addr) (n c n' c' : Nat), (binOp .eql 44 (.slice a n c) (.slice none n' c')).run Try.prog w = .ok (.bool a.isNone) w := fun w a n c n' c' => Lib.run_eql_slice_nil w _ _ a n c n' c' Try.underlying44
  go_enter Try.func106, Try.ntmps106
  go_wp2
  go_ret
  exact ⟨rfl, rfl⟩

set_option maxHeartbeats 2000000 in
set_option maxRecDepth 100000 in
theorem clone106_zero (a : Addr) (c : Nat) (w : World) :
    Calls Try.prog 106 #[.slice (some a) 0 c] w fun e w' => ∃ b, e = .returned (.slice b 0 0) ∧ w' = w.alloc (.cells #[] 3) := by
  have q44 : ∀ (w : World) (a : Option Addr) (n c n' c' : Nat), (binOp .eql 44 (.slice a n c) (.slice none n' c')).run Try.prog w = .ok (.bool a.isNone) w := fun w a n c n' c' => Lib.run_eql_slice_nil w _ _ a n c n' c' Try.underlying44
  go_enter Try.func106, Try.ntmps106
  go_wp2
  go_ret
  exact ⟨_, rfl, rfl⟩

set_option maxHeartbeats 2000000 in
set_option maxRecDepth 100000 in
theorem clone106_row (b off n c : Nat) (vs : List Value) (w : World) (hlen : vs.length = n * 1) (hbig : n * 8 ≤ 140737488355328) (hsc : ∀ u ∈ vs, scal u = true) (hc : ∀ j u, vs[j]? = some u → w.cell? ⟨b, off + j, none⟩ = some u) :
    Calls Try.prog 106 #[.slice (some ⟨b, off, none⟩) n c] w fun e w' => ∃ v', e = .returned v' ∧ w'.ownsRow w.heap.size 3 1 v' n vs ∧ Below w.heap.size w w' := by
  obtain ⟨i0, hi, hz0, hz1, hz2⟩ := info_parts INFO3
  have q44 : ∀ (w : World) (a : Option Addr) (n c n' c' : Nat), (binOp .eql 44 (.slice a n c) (.slice none n' c')).run Try.prog w = .ok (.bool a.isNone) w := fun w a n c n' c' => Lib.run_eql_slice_nil w _ _ a n c n' c' Try.underlying44
  have u44 : ∀ w, Sem.run Try.prog (underlying 44) w = .ok (TypeDesc.slice 3) w := run_underlying Try.underlying44
  have A : Aside (∀ j u, vs[j]? = some u → w.cell? ⟨b, off + j, none⟩ = some u) := hc
  clear hc
  go_enter Try.func106, Try.ntmps106
  go_wp2_with (at_builtin; refine wpList_append_own _ rfl _ _ 44 rfl w.heap.size 3 i0 (.int .i64 0) 1 8 Try.underlying44 hi hz0 hz1 hz2 rfl (by decide) _ _ _ rfl (World.ownsRow_made w #[] 0 (Nat.le_refl _) (Nat.zero_le _) rfl) ⟨b, off, none⟩ n c vs rfl ?qc1 ?qc2 ?qc3 ?qc4 ?qc5 ?qc6 ?_)
  case qc1 => exact hlen
  case qc2 =>
    intro j u hj
    rw [Addr.add_lit]
    exact Lib.cell?_alloc_some _ (A.out j u hj)
  case qc3 =>
    intro u hu
    have := hsc u hu
    cases u <;> first | rfl | cases this
  case qc4 => unfold maxLen; omega
  case qc5 => omega
  case qc6 => simp
  intro v' w1 hown hgrow hnil
  go_wp2
  go_ret
  refine ⟨_, rfl, by simpa using hown, ?_⟩
  refine ⟨hgrow.os, hgrow.tape, hgrow.output, ?_, fun k hk => ?_⟩
  · have := hgrow.size; rw [World.size_alloc] at this; omega
  · rw [hgrow.block k (by rw [World.size_alloc]; omega) (by simp [Value.ownBlock]; omega), heap_old w _ hk]

noncomputable def C106 : List AV → Option AV := specP (X := List Int × Unit) fun x => slices_Clone_int x.1
theorem C106_eq {s : List Int} {y} (h : slices_Clone_int s = some y) : C106 [av .shr s] = some (Res.res y) := specP_eq (X := List Int × Unit) (F := fun x => slices_Clone_int x.1) (x := (s, ())) h
theorem pc106 : PC Try.prog 106 C106 :=
  pc_clone (α := Int) (e := 3) (bytes := 8) ⟨Try.f106, Try.func106, by kernel_rfl, by kernel_rfl⟩ clone106_nil
    (fun a c w => (clone106_zero a c w).mono fun e w' h => by
      obtain ⟨b, rfl, rfl⟩ := h
      exact ⟨b, rfl, rfl, rfl, rfl, by rw [World.size_alloc]; omega, fun k hk => heap_old w _ hk⟩)
    clone106_row

set_option maxHeartbeats 4000000 in
set_option maxRecDepth 100000 in
theorem grow170_zero (w : World) : Calls Try.prog 170 #[.slice none 0 0, .int .i64 0] w fun e w' => e = .returned (.slice none 0 0) ∧ w' = w := by
  have u44 : ∀ w, Sem.run Try.prog (underlying 44) w = .ok (TypeDesc.slice 3) w := run_underlying Try.underlying44
  go_enter Try.func170, Try.ntmps170
  go_wp2
  go_ret
  exact ⟨rfl, rfl⟩

set_option maxHeartbeats 4000000 in
set_option maxRecDepth 100000 in
theorem grow170_pos (n : Nat) (w : World) (h0 : 0 < n) (hbig : n * 8 ≤ 140737488355328) :
    Calls Try.prog 170 #[.slice none 0 0, .int .i64 n] w fun e w' => ∃ v, e = .returned v ∧ w'.ownsRow w.heap.size 3 1 v 0 [] ∧ Below w.heap.size w w' := by
  obtain ⟨i0, hi, hz0, hz1, hz2⟩ := info_parts INFO3
  have u44 : ∀ w, Sem.run Try.prog (underlying 44) w = .ok (TypeDesc.slice 3) w := run_underlying Try.underlying44
  have hrz := fun ty => run_append_grow_zeros (P := Try.prog) w 44 3 ty 3 i0 (.int .i64 0) .i64 .i64 Try.underlying44 Try.underlying3 hi hz0 none 0 0 [] (run_firstCells_none w.drew i0.size 0 0 0) n h0 (by omega) (by omega) (by omega) (by rw [hz2]; omega)
    (by rw [hz2]; exact growslice_fits (by omega) (by omega))
  have hGn : 0 + n ≤ grownCap w (0 + n) 0 3 := grownCap_ge w _ _ _
  have hGm := grownCap_le_maxLen w (0 + n) 0 3 (by unfold maxLen; omega)
  obtain ⟨G, hG⟩ : ∃ G, G = grownCap w (0 + n) 0 3 := ⟨_, rfl⟩
  rw [← hG] at hrz hGn hGm
  have A : Aside (G ≤ maxLen) := hGm
  clear hG hGm
  simp only [Nat.zero_add] at hrz hGn
  have h1 : ¬ ((n : Int) < 0) := by omega
  have h2 : ((n : Int) > 0) := by omega
  have h3 : wrap64 (n : Int) = n := by unfold wrap64; omega
  have h4 : G ≤ 9223372036854775807 := by have := A.out; unfold maxLen at this; omega
  have B : Aside (i0.size = 1) := hz1
  clear hz1 hz2
  go_enter Try.func170, Try.ntmps170
  go_wp2_with (at_builtin; refine Lib.wpList_append_run _ rfl _ _ _ _ rfl _ _ rfl rfl _ _ (hrz _) ?_)
  all_goals (go_ret; refine ⟨_, rfl, ⟨rfl, .inr ⟨_, _, _, rfl, Nat.le_refl _, heap_new _ _, Nat.zero_le _, A.out, ?_, by simp⟩⟩, rfl, rfl, rfl, by (show w.heap.size ≤ (w.heap.push _).size); rw [Array.size_push]; omega, fun k hk => heap_old _ _ hk⟩)
  all_goals (simp [Builtin.zeroCells]; omega)

/-- the contract of Grow at nil, both ways -/
theorem grow170 (n : Nat) (w : World) (hbig : n * 8 ≤ 140737488355328) :
    Calls Try.prog 170 #[.slice none 0 0, .int .i64 n] w fun e w' => ∃ v, e = .returned v ∧ w'.ownsRow w.heap.size 3 1 v 0 [] ∧ (n = 0 → v = .slice none 0 0) ∧ Below w.heap.size w w' := by
  rcases Nat.eq_zero_or_pos n with rfl | hn
  · refine (grow170_zero w).mono fun e w' h => ?_
    obtain ⟨rfl, rfl⟩ := h
    exact ⟨_, rfl, ⟨rfl, .inl ⟨rfl, rfl⟩⟩, fun _ => rfl, Below.refl _ _⟩
  · refine (grow170_pos n w hn hbig).mono fun e w' h => ?_
    obtain ⟨v, rfl, h1, h2⟩ := h
    exact ⟨v, rfl, h1, fun h0 => by omega, h2⟩

set_option maxHeartbeats 8000000 in
set_option maxRecDepth 1000000 in
theorem concat152 (xa : Option Addr) (xb xo N xc : Nat) (ra : Nat → Option Addr) (nn rc : Nat → Nat) (ne : Nat → List Value) (w : World) (hxa : 0 < N → xa = some ⟨xb, xo, none⟩) (hN : Hid (N ≤ maxLen))
    (hc : Aside (∀ j, j < N → w.cell? ⟨xb, xo + j, none⟩ = some (.slice (ra j) (nn j) (rc j)))) (hr : Aside (∀ j, j < N → RowAt w 1 (ra j) (nn j) (ne j))) (hbig : Aside (tot nn N * 8 ≤ 140737488355328)) :
    Calls Try.prog 152 #[.slice xa N xc] w fun e w' => ∃ v, e = .returned v ∧ w'.ownsRow w.heap.size 3 1 v (tot nn N) (cat ne N) ∧ (tot nn N = 0 → v = .slice none 0 0) ∧ Below w.heap.size w w' := by
  obtain ⟨i0, hi, hz0, hz1, hz2⟩ := info_parts INFO3
  have B : Aside (i0.size = 1 ∧ i0.bytes = 8) := ⟨hz1, hz2⟩
  clear hz1 hz2
  go_enter Try.func152, Try.ntmps152
  go_wp2
  go_loopg [3, 11] N (fun k s c wr => ∃ j, k = N - j ∧ j ≤ N ∧ s = .int .i64 (tot nn j : Nat) ∧ c = .int .i64 j ∧ w = wr)
  case atStart => exact ⟨0, rfl, Nat.zero_le _, rfl, rfl, rfl⟩
  case round =>
    obtain ⟨j, hk, hj, rfl, rfl, rfl⟩ := hrel
    by_cases hlt : j < N
    · obtain rfl := hxa (by omega)
      have hx := hc.out j hlt
      have hlt' : (j : Int) < (N : Int) := by omega
      have hw : wrap64 ((tot nn j : Int) + (nn j : Int)) = ((tot nn (j + 1) : Nat) : Int) := by
        have := tot_mono nn (i := j + 1) (j := N) (by omega)
        have := hbig.out
        exact wrap_add (by simp only [tot] at *; unfold maxLen; omega)
      have hneg : ¬ (((tot nn (j + 1) : Nat) : Int) < 0) := by omega
      go_wp2
      go_roundg (N - (j + 1))
      case measure => omega
      case rel => exact ⟨j + 1, rfl, by omega, rfl, by simp; exact wrap_add (a := j) (b := 1) (by have := hN.out; omega), rfl⟩
    · obtain rfl : j = N := by omega
      have hg := grow170 (tot nn j) w hbig.out
      go_wp2_with (go_at_call 170; refine hg.mono ?_; rintro e w' ⟨v, rfl, hown, hnil, hbel⟩)
      clear hg
      go_loopg [6, 27] j (fun k d c wq => ∃ i, k = j - i ∧ i ≤ j ∧ c = .int .i64 i ∧ wq.ownsRow w.heap.size 3 1 d (tot nn i) (cat ne i) ∧ (tot nn j = 0 → d = .slice none 0 0) ∧ Below w.heap.size w wq)
      case atStart => exact ⟨0, rfl, Nat.zero_le _, rfl, hown, hnil, hbel⟩
      case round =>
        obtain ⟨i, hk, hi2, rfl, hown2, hnil2, hbel2⟩ := hrel
        by_cases hlt2 : i < j
        · obtain rfl := hxa (by omega)
          have hx : wr.cell? ⟨xb, xo + i, none⟩ = some (.slice (ra i) (nn i) (rc i)) := by
            have := hc.out i hlt2
            rw [← this]
            exact World.cell?_of_block (hbel2.block xb (World.block_lt_of_cell? _ _ this))
          obtain ⟨v2, w2, hrun, hown3, hgr, hnil3⟩ := run_append_rowAt (P := Try.prog) w.heap.size 44 44 3 i0 (.int .i64 0) 1 8 Try.underlying44 hi hz0 B.out.1 B.out.2 rfl (by decide) _ _ _ hown2 (ra i) (nn i) (rc i) (ne i) (hr.out i hlt2) hbel2.block
            (by have := tot_mono nn (i := i + 1) (j := j) (by omega); have := hbig.out; simp only [tot] at *; unfold maxLen; omega) (by have := tot_mono nn (i := i + 1) (j := j) (by omega); have := hbig.out; simp only [tot] at *; omega) hbel2.size
          have hbel3 : Below w.heap.size w w2 := by
            refine hbel2.trans ⟨hgr.os, hgr.tape, hgr.output, hgr.size, fun k hk => hgr.block k (Nat.lt_of_lt_of_le hk hbel2.size) fun he => ?_⟩
            rcases hown2.2 with ⟨h1, _⟩ | ⟨g, cap, cur, h1, h2, _⟩
            · rw [h1] at he; simp [Value.ownBlock] at he
            · rw [h1] at he; simp [Value.ownBlock] at he; omega
          have hnil4 : tot nn j = 0 → v2 = .slice none 0 0 := fun h0 => by
            have := tot_mono nn (i := i + 1) (j := j) (by omega)
            rw [hnil3 (by simp only [tot] at *; omega), hnil2 h0]
          have hlt3 : (i : Int) < (j : Int) := by omega
          have H : Aside (w2.ownsRow w.heap.size 3 1 v2 (tot nn (i + 1)) (cat ne (i + 1)) ∧ (tot nn j = 0 → v2 = .slice none 0 0) ∧ Below w.heap.size w w2) := ⟨hown3, hnil4, hbel3⟩
          clear hown3 hnil4 hbel3 hnil3 hgr hown2 hnil2 hbel2 hown hnil hbel
          go_wp2_with (at_builtin; refine Lib.wpList_append_run _ rfl _ _ _ _ rfl _ _ rfl rfl _ _ hrun ?_)
          go_roundg (j - (i + 1))
          case measure => omega
          case rel => exact ⟨i + 1, rfl, by omega, by simp; exact wrap_add (a := i) (b := 1) (by have := hN.out; omega), H.out.1, H.out.2⟩
        · obtain rfl : i = j := by omega
          go_wp2
          go_ret
          exact ⟨_, rfl, hown2, hnil2, hbel2⟩

noncomputable def C152 : List AV → Option AV := specP (X := List (List Int) × Unit) fun x => slices_Concat_int x.1
theorem C152_eq {s : List (List Int)} {y} (h : slices_Concat_int s = some y) : C152 [av .shr s] = some (Res.res y) := specP_eq (X := List (List Int) × Unit) (F := fun x => slices_Concat_int x.1) (x := (s, ())) h
theorem pc152 : PC Try.prog 152 C152 :=
  pc_concat (α := Int) (e := 3) (bytes := 8) ⟨Try.f152, Try.func152, by kernel_rfl, by kernel_rfl⟩
    fun xa xb xo N xc ra nn rc ne w h1 h2 h3 h4 h5 => concat152 xa xb xo N xc ra nn rc ne w h1 h2 h3 h4 h5
end Go.Proofs

namespace Go.Proofs
open Go.Ev
open Enc (enc)
abbrev G54 (g : Cfg) : Prop := Has Try.prog g 54 Try.f54 [] [(2, rowKp)] [] []
set_option maxHeartbeats 4000000 in
set_option maxRecDepth 100000 in
theorem mk54 {g : Cfg} (G : G54 g) : MkOK g 54 false mkF_markIntS := by
  have gP := G.P; have gt := G.tk; have gr := G.ro; have gg := G.gh
  refine mark_row_ok fun xs k d e r mem hx hd hT hR => ?_
  have hl : xs.length ≤ 9223372036854775806 := by have := hx.1; omega
  refine start_m (Try.f54.body.getD .skip) [.tmp 4] G Try.func54 (by kernel_rfl) (by simp [Try.ntmps54]) rfl ?_
  simp [Try.f54, gP, gt, gr, gg]
  refine goal_rows mkE_markIntS xs k d r mem (G.kp (2, rowKp) (by simp)) (by simp) (by simp) (by simp) hR (MemU.refl _ _ _) hl ?_ ?_ ?_
  · intro i A B x k' σ' hx2 hi hi2 hA e0 e1 e5 R0 M0
    have hxl := hx.2 x hx2
    have hlt : ltI (i : Int) (xs.length : Int) = true := by simpa [ltI] using hi
    have hinc : addI (i : Int) 1 = ((i + 1 : Nat) : Int) := addI_eq (by omega) (by omega)
    have R0 : RowI σ'.mem d r (A ++ ((.sc (.int .i64 x)) :: B)) := R0
    have C0 := R0.1
    obtain ⟨P0, hP0⟩ : ∃ P : List D, P = A ++ [] := ⟨_, rfl⟩
    have l0 : P0.length = i := by rw [hP0, List.length_append, hA]; simp
    have q0 : A ++ ((.sc (.int .i64 x)) :: B) = P0 ++ ((.sc (.int .i64 x)) :: (B)) := by rw [hP0, List.append_assoc]; rfl
    obtain ⟨w1, R1, M1'⟩ := row_store (v' := .int .i64 k') q0 R0
    have q0' : P0 ++ (.sc (.int .i64 k') :: (B)) = A ++ ((.sc (.int .i64 k')) :: B) := by rw [hP0, List.append_assoc]; rfl
    rw [q0'] at w1 R1 M1'
    rw [l0] at w1
    have M1 := M0.trans M1'
    have h0 : i + 1 ≤ (bxL d r 0 (A ++ ((.sc (.int .i64 x)) :: B))).length := by rw [bxL_length, q0, List.length_append, List.length_cons, l0]; omega
    simp [gP, gt, gr, gg, e0, e1, e5, hlt, hinc, hi, C0, w1, h0]
    exact ⟨_, rfl, by simp [e0], by simp [mkE_markIntS], by simp, R1, M1⟩
  · intro z k' σ' e0 e1 e5
    have hlt : ltI (xs.length : Int) (xs.length : Int) = false := by simp [ltI]
    simp [gP, gt, gr, gg, e0, e1, e5, hlt]
    exact ⟨_, rfl, by simp [e1], rfl⟩
  · intro σ' e1 eR eM
    have hT2 : memKill (fun k => decide (e < k.1)) σ'.mem = σ'.mem := eM.tight hd hT
    simp [gP, gt, gr, gg, e1, Goal, FnEndM, hT2]
    exact ⟨_, _, ⟨rfl, rfl⟩, rfl, eM, eR⟩

abbrev G86 (g : Cfg) : Prop := Has Try.prog g 86 Try.f86 [] [(2, rowKp)] [] []
set_option maxHeartbeats 4000000 in
set_option maxRecDepth 100000 in
theorem mk86 {g : Cfg} (G : G86 g) (G_54 : G54 g) : MkOK g 86 false mkF_markNodeS := by
  have gP := G.P; have gt := G.tk; have gr := G.ro; have gg := G.gh
  have i_54 := G_54.no
  refine mark_row_ok fun xs k d e r mem hx hd hT hR => ?_
  have hl : xs.length ≤ 9223372036854775806 := by have := hx.1; omega
  refine start_m (Try.f86.body.getD .skip) [.tmp 4] G Try.func86 (by kernel_rfl) (by simp [Try.ntmps86]) rfl ?_
  simp [Try.f86, gP, gt, gr, gg]
  refine goal_rows mkE_markNodeS xs k d r mem (G.kp (2, rowKp) (by simp)) (by simp) (by simp) (by simp) hR (MemU.refl _ _ _) hl ?_ ?_ ?_
  · intro i A B x k' σ' hx2 hi hi2 hA e0 e1 e5 R0 M0
    have hxl := hx.2 x hx2
    have hlt : ltI (i : Int) (xs.length : Int) = true := by simpa [ltI] using hi
    have hinc : addI (i : Int) 1 = ((i + 1 : Nat) : Int) := addI_eq (by omega) (by omega)
    have R0 : RowI σ'.mem d r (A ++ ((.sl x.vars.length (encL x.vars)) :: (.sl x.reach.length (encL x.reach)) :: (.sc (.int .i64 x.shared)) :: (.sc (.int .i64 x.many)) :: B)) := R0
    have C0 := R0.1
    obtain ⟨P0, hP0⟩ : ∃ P : List D, P = A ++ [] := ⟨_, rfl⟩
    have l0 : P0.length = i * 4 := by rw [hP0, List.length_append, hA]; simp
    have q0 : A ++ ((.sl x.vars.length (encL x.vars)) :: (.sl x.reach.length (encL x.reach)) :: (.sc (.int .i64 x.shared)) :: (.sc (.int .i64 x.many)) :: B) = P0 ++ ((.sl x.vars.length (encL x.vars)) :: ((.sl x.reach.length (encL x.reach)) :: (.sc (.int .i64 x.shared)) :: (.sc (.int .i64 x.many)) :: B)) := by rw [hP0, List.append_assoc]; rfl
    have s0 := seg_bx (d := d) (r := r) q0 l0
    simp only [bxC] at s0
    simp [gP, gt, gr, gg, e0, e1, e5, hlt, hinc, hi, i_54, C0, s0]
    obtain ⟨m1, hc1, R1, M1'⟩ := row_mark (mk54 G_54 x.vars k' hxl.1) q0 (show d ≤ e + 1 by omega) (M0.tight hd hT).up R0
    refine goal_callM _ _ rfl hc1 ?_
    have R1 : RowI m1 d r (A ++ ((.sl ((mkF_markIntS x.vars k').1).length (encL ((mkF_markIntS x.vars k').1))) :: (.sl x.reach.length (encL x.reach)) :: (.sc (.int .i64 x.shared)) :: (.sc (.int .i64 x.many)) :: B)) := by rw [hP0, List.append_assoc] at R1; exact R1
    have M1 := M0.trans M1'
    have C1 := R1.1
    obtain ⟨P1, hP1⟩ : ∃ P : List D, P = A ++ [.sl ((mkF_markIntS x.vars k').1).length (encL ((mkF_markIntS x.vars k').1))] := ⟨_, rfl⟩
    have l1 : P1.length = i * 4 + 1 := by rw [hP1, List.length_append, hA]; simp
    have q1 : A ++ ((.sl ((mkF_markIntS x.vars k').1).length (encL ((mkF_markIntS x.vars k').1))) :: (.sl x.reach.length (encL x.reach)) :: (.sc (.int .i64 x.shared)) :: (.sc (.int .i64 x.many)) :: B) = P1 ++ ((.sl x.reach.length (encL x.reach)) :: ((.sc (.int .i64 x.shared)) :: (.sc (.int .i64 x.many)) :: B)) := by rw [hP1, List.append_assoc]; rfl
    have s1 := seg_bx (d := d) (r := r) q1 l1
    simp only [bxC] at s1
    simp [gP, gt, gr, gg, e0, e1, e5, hlt, hinc, hi, i_54, C1, s1]
    obtain ⟨m2, hc2, R2, M2'⟩ := row_mark (mk54 G_54 x.reach ((mkF_markIntS x.vars k').2) hxl.2) q1 (show d ≤ e + 1 by omega) (M1.tight hd hT).up R1
    refine goal_callM _ _ rfl hc2 ?_
    have R2 : RowI m2 d r (A ++ ((.sl ((mkF_markIntS x.vars k').1).length (encL ((mkF_markIntS x.vars k').1))) :: (.sl ((mkF_markIntS x.reach ((mkF_markIntS x.vars k').2)).1).length (encL ((mkF_markIntS x.reach ((mkF_markIntS x.vars k').2)).1))) :: (.sc (.int .i64 x.shared)) :: (.sc (.int .i64 x.many)) :: B)) := by rw [hP1, List.append_assoc] at R2; exact R2
    have M2 := M1.trans M2'
    have C2 := R2.1
    obtain ⟨P2, hP2⟩ : ∃ P : List D, P = A ++ [.sl ((mkF_markIntS x.vars k').1).length (encL ((mkF_markIntS x.vars k').1)), .sl ((mkF_markIntS x.reach ((mkF_markIntS x.vars k').2)).1).length (encL ((mkF_markIntS x.reach ((mkF_markIntS x.vars k').2)).1))] := ⟨_, rfl⟩
    have l2 : P2.length = i * 4 + 2 := by rw [hP2, List.length_append, hA]; simp
    have q2 : A ++ ((.sl ((mkF_markIntS x.vars k').1).length (encL ((mkF_markIntS x.vars k').1))) :: (.sl ((mkF_markIntS x.reach ((mkF_markIntS x.vars k').2)).1).length (encL ((mkF_markIntS x.reach ((mkF_markIntS x.vars k').2)).1))) :: (.sc (.int .i64 x.shared)) :: (.sc (.int .i64 x.many)) :: B) = P2 ++ ((.sc (.int .i64 x.shared)) :: ((.sc (.int .i64 x.many)) :: B)) := by rw [hP2, List.append_assoc]; rfl
    obtain ⟨w3, R3, M3'⟩ := row_store (v' := .int .i64 ((mkF_markIntS x.reach ((mkF_markIntS x.vars k').2)).2)) q2 R2
    have q2' : P2 ++ (.sc (.int .i64 ((mkF_markIntS x.reach ((mkF_markIntS x.vars k').2)).2)) :: ((.sc (.int .i64 x.many)) :: B)) = A ++ ((.sl ((mkF_markIntS x.vars k').1).length (encL ((mkF_markIntS x.vars k').1))) :: (.sl ((mkF_markIntS x.reach ((mkF_markIntS x.vars k').2)).1).length (encL ((mkF_markIntS x.reach ((mkF_markIntS x.vars k').2)).1))) :: (.sc (.int .i64 ((mkF_markIntS x.reach ((mkF_markIntS x.vars k').2)).2))) :: (.sc (.int .i64 x.many)) :: B) := by rw [hP2, List.append_assoc]; rfl
    rw [q2'] at w3 R3 M3'
    rw [l2] at w3
    have M3 := M2.trans M3'
    have h2 : i * 4 + 2 + 1 ≤ (bxL d r 0 (A ++ ((.sl ((mkF_markIntS x.vars k').1).length (encL ((mkF_markIntS x.vars k').1))) :: (.sl ((mkF_markIntS x.reach ((mkF_markIntS x.vars k').2)).1).length (encL ((mkF_markIntS x.reach ((mkF_markIntS x.vars k').2)).1))) :: (.sc (.int .i64 x.shared)) :: (.sc (.int .i64 x.many)) :: B))).length := by rw [bxL_length, q2, List.length_append, List.length_cons, l2]; omega
    obtain ⟨P3, hP3⟩ : ∃ P : List D, P = A ++ [.sl ((mkF_markIntS x.vars k').1).length (encL ((mkF_markIntS x.vars k').1)), .sl ((mkF_markIntS x.reach ((mkF_markIntS x.vars k').2)).1).length (encL ((mkF_markIntS x.reach ((mkF_markIntS x.vars k').2)).1)), .sc (.int .i64 ((mkF_markIntS x.reach ((mkF_markIntS x.vars k').2)).2))] := ⟨_, rfl⟩
    have l3 : P3.length = i * 4 + 3 := by rw [hP3, List.length_append, hA]; simp
    have q3 : A ++ ((.sl ((mkF_markIntS x.vars k').1).length (encL ((mkF_markIntS x.vars k').1))) :: (.sl ((mkF_markIntS x.reach ((mkF_markIntS x.vars k').2)).1).length (encL ((mkF_markIntS x.reach ((mkF_markIntS x.vars k').2)).1))) :: (.sc (.int .i64 ((mkF_markIntS x.reach ((mkF_markIntS x.vars k').2)).2))) :: (.sc (.int .i64 x.many)) :: B) = P3 ++ ((.sc (.int .i64 x.many)) :: (B)) := by rw [hP3, List.append_assoc]; rfl
    obtain ⟨w4, R4, M4'⟩ := row_store (v' := .int .i64 (addI ((mkF_markIntS x.reach ((mkF_markIntS x.vars k').2)).2) 1)) q3 R3
    have q3' : P3 ++ (.sc (.int .i64 (addI ((mkF_markIntS x.reach ((mkF_markIntS x.vars k').2)).2) 1)) :: (B)) = A ++ ((.sl ((mkF_markIntS x.vars k').1).length (encL ((mkF_markIntS x.vars k').1))) :: (.sl ((mkF_markIntS x.reach ((mkF_markIntS x.vars k').2)).1).length (encL ((mkF_markIntS x.reach ((mkF_markIntS x.vars k').2)).1))) :: (.sc (.int .i64 ((mkF_markIntS x.reach ((mkF_markIntS x.vars k').2)).2))) :: (.sc (.int .i64 (addI ((mkF_markIntS x.reach ((mkF_markIntS x.vars k').2)).2) 1))) :: B) := by rw [hP3, List.append_assoc]; rfl
    rw [q3'] at w4 R4 M4'
    rw [l3] at w4
    have M4 := M3.trans M4'
    have h3 : i * 4 + 3 + 1 ≤ (bxL d r 0 (A ++ ((.sl ((mkF_markIntS x.vars k').1).length (encL ((mkF_markIntS x.vars k').1))) :: (.sl ((mkF_markIntS x.reach ((mkF_markIntS x.vars k').2)).1).length (encL ((mkF_markIntS x.reach ((mkF_markIntS x.vars k').2)).1))) :: (.sc (.int .i64 ((mkF_markIntS x.reach ((mkF_markIntS x.vars k').2)).2))) :: (.sc (.int .i64 x.many)) :: B))).length := by rw [bxL_length, q3, List.length_append, List.length_cons, l3]; omega
    simp [gP, gt, gr, gg, e0, e1, e5, hlt, hinc, hi, i_54, C2, w3, h2, w4, h3]
    exact ⟨_, rfl, by simp [e0], by simp [mkE_markNodeS], by simp, R4, M4⟩
  · intro z k' σ' e0 e1 e5
    have hlt : ltI (xs.length : Int) (xs.length : Int) = false := by simp [ltI]
    simp [gP, gt, gr, gg, e0, e1, e5, hlt]
    exact ⟨_, rfl, by simp [e1], rfl⟩
  · intro σ' e1 eR eM
    have hT2 : memKill (fun k => decide (e < k.1)) σ'.mem = σ'.mem := eM.tight hd hT
    simp [gP, gt, gr, gg, e1, Goal, FnEndM, hT2]
    exact ⟨_, _, ⟨rfl, rfl⟩, rfl, eM, eR⟩

abbrev G25 (g : Cfg) : Prop := Has Try.prog g 25 Try.f25 [] [] [] []
set_option maxHeartbeats 4000000 in
set_option maxRecDepth 100000 in
theorem mk25 {g : Cfg} (G : G25 g) (G_86 : G86 g) (G_54 : G54 g) : MkOK g 25 true mkF_markStructure := by
  have gP := G.P; have gt := G.tk; have gr := G.ro; have gg := G.gh
  have i_86 := G_86.no
  have i_54 := G_54.no
  intro x k hx
  have h0 := mk86 G_86 G_54 x.nodes k hx.1
  have h1 := mk54 G_54 x.next ((mkF_markNodeS x.nodes k).2) hx.2
  have eX : enc x = [.sl x.nodes.length (encL x.nodes), .sl x.next.length (encL x.next)] := rfl
  have eY : enc (mkF_markStructure x k).1 = [.sl ((mkF_markNodeS x.nodes k).1).length (encL ((mkF_markNodeS x.nodes k).1)), .sl ((mkF_markIntS x.next ((mkF_markNodeS x.nodes k).2)).1).length (encL ((mkF_markIntS x.next ((mkF_markNodeS x.nodes k).2)).1))] := rfl
  refine ⟨fun d p i => ?_, fun d e p i mem hd hT hs => ?_⟩
  · rw [eX, eY]
    simp only [bxL]
    have e0 := h0.1 d p (i)
    have e1 := h1.1 d p (i + 1)
    simp only [enc_list, bxL, List.cons.injEq, and_true, List.cons_append, List.nil_append] at e0 e1
    rw [e0, e1]
  · have n0 : mem (e + 1, 2) = none := hT.none (by simp)
    rw [eX] at hs ⊢
    rw [eY]
    have ha : avC true (bxL d p i [.sl x.nodes.length (encL x.nodes), .sl x.next.length (encL x.next)]) = .ag [.bs (d, pk (p ++ [i])) x.nodes.length (szD x.nodes.length (encL x.nodes)), .bs (d, pk (p ++ [i + 1])) x.next.length (szD x.next.length (encL x.next))] := rfl
    rw [ha]
    suffices hh : ∃ R m, callo g e 25 [.ag [.bs (d, pk (p ++ [i])) x.nodes.length (szD x.nodes.length (encL x.nodes)), .bs (d, pk (p ++ [i + 1])) x.next.length (szD x.next.length (encL x.next))], .one (.s (.int .i64 k))] mem = some (R, m) ∧ R = .one (.s (.int .i64 (mkF_markStructure x k).2)) ∧ MemR mem m d p i 2 ∧ subL m d p i [.sl ((mkF_markNodeS x.nodes k).1).length (encL ((mkF_markNodeS x.nodes k).1)), .sl ((mkF_markIntS x.next ((mkF_markNodeS x.nodes k).2)).1).length (encL ((mkF_markIntS x.next ((mkF_markNodeS x.nodes k).2)).1))] by
      obtain ⟨R, m, hc, rfl, hr⟩ := hh
      exact ⟨m, hc, hr⟩
    refine start_m (Try.f25.body.getD .skip) [.tmp 4] G Try.func25 (by kernel_rfl) (by simp [Try.ntmps25]) rfl ?_
    simp [Try.f25, gP, gt, gr, gg, n0, i_86, i_54]
    have S0 : subL (upd mem (e + 1, 2) (some [.bs (d, pk (p ++ [i])) x.nodes.length (szD x.nodes.length (encL x.nodes)), .bs (d, pk (p ++ [i + 1])) x.next.length (szD x.next.length (encL x.next))])) d p i [.sl x.nodes.length (encL x.nodes), .sl x.next.length (encL x.next)] := subL_congr (fun j q _ => by rw [upd_get, if_neg (by intro hh; have := (Prod.mk.inj hh).1; omega)]) hs
    have T0 : Tight (e + 1) (upd mem (e + 1, 2) (some [.bs (d, pk (p ++ [i])) x.nodes.length (szD x.nodes.length (encL x.nodes)), .bs (d, pk (p ++ [i + 1])) x.next.length (szD x.next.length (encL x.next))])) := hT.up.upd (by simp) (by simp; omega)
    have M0 : MemR (upd mem (e + 1, 2) (some [.bs (d, pk (p ++ [i])) x.nodes.length (szD x.nodes.length (encL x.nodes)), .bs (d, pk (p ++ [i + 1])) x.next.length (szD x.next.length (encL x.next))])) (upd mem (e + 1, 2) (some [.bs (d, pk (p ++ [i])) x.nodes.length (szD x.nodes.length (encL x.nodes)), .bs (d, pk (p ++ [i + 1])) x.next.length (szD x.next.length (encL x.next))])) d p i 2 := MemR.refl _ _ _ _ _
    obtain ⟨m1, hc1, S1, M1'⟩ := struct_mark (pre := []) h0 rfl (show d ≤ e + 1 by omega) T0 S0
    refine goal_callM _ _ rfl hc1 ?_
    have M1 := M0.trans M1'
    have T1 : Tight (e + 1) m1 := M1.tight (show d ≤ e + 1 by omega) T0
    have b1 : m1 (e + 1, 2) = some [.bs (d, pk (p ++ [i])) x.nodes.length (szD x.nodes.length (encL x.nodes)), .bs (d, pk (p ++ [i + 1])) x.next.length (szD x.next.length (encL x.next))] := by rw [M1.far _ (fun j q _ _ hh => by have := (Prod.mk.inj hh).1; omega), upd_get, if_pos rfl]
    simp [gP, gt, gr, gg, b1, i_86, i_54]
    obtain ⟨m2, hc2, S2, M2'⟩ := struct_mark (pre := [.sl ((mkF_markNodeS x.nodes k).1).length (encL ((mkF_markNodeS x.nodes k).1))]) h1 rfl (show d ≤ e + 1 by omega) T1 S1
    refine goal_callM _ _ rfl hc2 ?_
    have M2 := M1.trans M2'
    have T2 : Tight (e + 1) m2 := M2.tight (show d ≤ e + 1 by omega) T0
    have b2 : m2 (e + 1, 2) = some [.bs (d, pk (p ++ [i])) x.nodes.length (szD x.nodes.length (encL x.nodes)), .bs (d, pk (p ++ [i + 1])) x.next.length (szD x.next.length (encL x.next))] := by rw [M2.far _ (fun j q _ _ hh => by have := (Prod.mk.inj hh).1; omega), upd_get, if_pos rfl]
    simp [gP, gt, gr, gg, b2, i_86, i_54, Goal, FnEndM]
    exact ⟨_, _, ⟨rfl, rfl⟩, rfl, byval_end hd hT (cs := [.sl x.nodes.length (encL x.nodes), .sl x.next.length (encL x.next)]) (i0 := i) M2 S2⟩

abbrev G26 (g : Cfg) : Prop := Has Try.prog g 26 Try.f26 [] [(2, rowKp)] [] []
set_option maxHeartbeats 4000000 in
set_option maxRecDepth 100000 in
theorem mk26 {g : Cfg} (G : G26 g) (G_86 : G86 g) (G_54 : G54 g) : MkOK g 26 false mkF_markStructureS := by
  have gP := G.P; have gt := G.tk; have gr := G.ro; have gg := G.gh
  have i_86 := G_86.no
  have i_54 := G_54.no
  refine mark_row_ok fun xs k d e r mem hx hd hT hR => ?_
  have hl : xs.length ≤ 9223372036854775806 := by have := hx.1; omega
  refine start_m (Try.f26.body.getD .skip) [.tmp 4] G Try.func26 (by kernel_rfl) (by simp [Try.ntmps26]) rfl ?_
  simp [Try.f26, gP, gt, gr, gg]
  refine goal_rows mkE_markStructureS xs k d r mem (G.kp (2, rowKp) (by simp)) (by simp) (by simp) (by simp) hR (MemU.refl _ _ _) hl ?_ ?_ ?_
  · intro i A B x k' σ' hx2 hi hi2 hA e0 e1 e5 R0 M0
    have hxl := hx.2 x hx2
    have hlt : ltI (i : Int) (xs.length : Int) = true := by simpa [ltI] using hi
    have hinc : addI (i : Int) 1 = ((i + 1 : Nat) : Int) := addI_eq (by omega) (by omega)
    have R0 : RowI σ'.mem d r (A ++ ((.sl x.nodes.length (encL x.nodes)) :: (.sl x.next.length (encL x.next)) :: B)) := R0
    have C0 := R0.1
    obtain ⟨P0, hP0⟩ : ∃ P : List D, P = A ++ [] := ⟨_, rfl⟩
    have l0 : P0.length = i * 2 := by rw [hP0, List.length_append, hA]; simp
    have q0 : A ++ ((.sl x.nodes.length (encL x.nodes)) :: (.sl x.next.length (encL x.next)) :: B) = P0 ++ ((.sl x.nodes.length (encL x.nodes)) :: ((.sl x.next.length (encL x.next)) :: B)) := by rw [hP0, List.append_assoc]; rfl
    have s0 := seg_bx (d := d) (r := r) q0 l0
    simp only [bxC] at s0
    simp [gP, gt, gr, gg, e0, e1, e5, hlt, hinc, hi, i_86, i_54, C0, s0]
    obtain ⟨m1, hc1, R1, M1'⟩ := row_mark (mk86 G_86 G_54 x.nodes k' hxl.1) q0 (show d ≤ e + 1 by omega) (M0.tight hd hT).up R0
    refine goal_callM _ _ rfl hc1 ?_
    have R1 : RowI m1 d r (A ++ ((.sl ((mkF_markNodeS x.nodes k').1).length (encL ((mkF_markNodeS x.nodes k').1))) :: (.sl x.next.length (encL x.next)) :: B)) := by rw [hP0, List.append_assoc] at R1; exact R1
    have M1 := M0.trans M1'
    have C1 := R1.1
    obtain ⟨P1, hP1⟩ : ∃ P : List D, P = A ++ [.sl ((mkF_markNodeS x.nodes k').1).length (encL ((mkF_markNodeS x.nodes k').1))] := ⟨_, rfl⟩
    have l1 : P1.length = i * 2 + 1 := by rw [hP1, List.length_append, hA]; simp
    have q1 : A ++ ((.sl ((mkF_markNodeS x.nodes k').1).length (encL ((mkF_markNodeS x.nodes k').1))) :: (.sl x.next.length (encL x.next)) :: B) = P1 ++ ((.sl x.next.length (encL x.next)) :: (B)) := by rw [hP1, List.append_assoc]; rfl
    have s1 := seg_bx (d := d) (r := r) q1 l1
    simp only [bxC] at s1
    simp [gP, gt, gr, gg, e0, e1, e5, hlt, hinc, hi, i_86, i_54, C1, s1]
    obtain ⟨m2, hc2, R2, M2'⟩ := row_mark (mk54 G_54 x.next ((mkF_markNodeS x.nodes k').2) hxl.2) q1 (show d ≤ e + 1 by omega) (M1.tight hd hT).up R1
    refine goal_callM _ _ rfl hc2 ?_
    have R2 : RowI m2 d r (A ++ ((.sl ((mkF_markNodeS x.nodes k').1).length (encL ((mkF_markNodeS x.nodes k').1))) :: (.sl ((mkF_markIntS x.next ((mkF_markNodeS x.nodes k').2)).1).length (encL ((mkF_markIntS x.next ((mkF_markNodeS x.nodes k').2)).1))) :: B)) := by rw [hP1, List.append_assoc] at R2; exact R2
    have M2 := M1.trans M2'
    have C2 := R2.1
    simp [gP, gt, gr, gg, e0, e1, e5, hlt, hinc, hi, i_86, i_54, C2]
    exact ⟨_, rfl, by simp [e0], by simp [mkE_markStructureS], by simp, R2, M2⟩
  · intro z k' σ' e0 e1 e5
    have hlt : ltI (xs.length : Int) (xs.length : Int) = false := by simp [ltI]
    simp [gP, gt, gr, gg, e0, e1, e5, hlt]
    exact ⟨_, rfl, by simp [e1], rfl⟩
  · intro σ' e1 eR eM
    have hT2 : memKill (fun k => decide (e < k.1)) σ'.mem = σ'.mem := eM.tight hd hT
    simp [gP, gt, gr, gg, e1, Goal, FnEndM, hT2]
    exact ⟨_, _, ⟨rfl, rfl⟩, rfl, eM, eR⟩
end Go.Proofs
