import Derived.Test.YtmmliafoddlgfaaGreatEvA9
import Derived.Test.YtmmliafoddlgfaaGreatEvA10
set_option linter.unusedSimpArgs false
set_option linter.unusedVariables false
set_option linter.unnecessarySimpa false
noncomputable section
namespace Go.Ev
open Wf (wf)
open Sm (sm lg)
theorem szStringS_ok {a : (List ByteArray)} {left : Int} (hw : wf a) (hl : 0 ≤ left ∧ left ≤ 1048576) : SzOK (laws_szStringS a left) (sm a) := by
 refine szRow (fun x l => some (subI l (x.size : Int))) hl (wf_list hw).1 (fun x hx l hl => ?_) (fun i x l n hi hx hn => ?_) (fun l => ?_) (by unfold laws_szStringS; rfl)
 ·have := wf_str ((wf_list hw).2 x hx)
  rw [subI_eq (by omega) (by omega)]
  exact ⟨_, rfl, by omega, fun h => by show x.size ≤ 1048576; omega, by omega⟩
 ·cases hn
  simp only [zao, at_nat, hx, Int.ofNat_lt, hi, if_true, Option.bind_some]
  split <;> rfl
 ·simp [zao]
theorem szStmt_ok {a : TStmt} {left : Int} (hw : wf a) (hl : 0 ≤ left ∧ left ≤ 1048576) : SzOK (laws_szStmt a left) (sm a) := by
 unfold laws_szStmt
 have h1 := wf_str hw.2.1
 have h2 := wf_str hw.2.2
 rw [subI_eq (a := left) (by omega) (by omega), zao]
 by_cases h : left - (a.a.size : Int) < 0
 ·rw [if_pos h]; exact ⟨-1, rfl, by omega, by omega, by omega⟩
 ·rw [if_neg h, subI_eq (by omega) (by omega), zao]
  by_cases h3 : left - (a.a.size : Int) - (a.b.size : Int) < 0
  ·rw [if_pos h3]; exact ⟨-1, rfl, by omega, by omega, by omega⟩
  ·rw [if_neg h3]
   exact ⟨_, rfl, by omega, fun _ => ⟨by show a.a.size ≤ 1048576; omega, by show a.b.size ≤ 1048576; omega⟩, by omega⟩
theorem szEdge_ok {a : TEdge} {left : Int} (hw : wf a) (hl : 0 ≤ left ∧ left ≤ 1048576) : SzOK (laws_szEdge a left) (sm a) := (szStmt_ok hw.2.2 hl).last
theorem szEdgeS_ok {a : (List TEdge)} {left : Int} (hw : wf a) (hl : 0 ≤ left ∧ left ≤ 1048576) : SzOK (laws_szEdgeS a left) (sm a) := by
 refine szRow laws_szEdge hl (wf_list hw).1 (fun x hx l hl => szEdge_ok ((wf_list hw).2 x hx) hl) (fun i x l n hi hx hn => ?_) (fun l => ?_) (by unfold laws_szEdgeS; rfl)
 ·simp only [zao, at_nat, hx, hn, Int.ofNat_lt, hi, if_true, Option.bind_some]
  split <;> rfl
 ·simp [zao]
theorem szProgram_ok {a : TProgram} {left : Int} (hw : wf a) (hl : 0 ≤ left ∧ left ≤ 1048576) : SzOK (laws_szProgram a left) (sm a) := (szStringS_ok hw.1 hl).two fun n0 hn0 => (szEdgeS_ok hw.2.2 hn0).last
theorem szIntS_ok {a : (List Int)} {left : Int} (hw : wf a) (hl : 0 ≤ left ∧ left ≤ 1048576) : SzOK (laws_szIntS a left) (sm a) := by
 unfold laws_szIntS
 have h := (wf_list hw).1
 rw [subI_eq (by omega) (by omega), zao]
 by_cases h : left - (a.length : Int) < 0
 ·rw [if_pos h]; exact ⟨-1, rfl, by omega, by omega, by omega⟩
 ·rw [if_neg h]; exact ⟨_, rfl, by omega, fun _ => ⟨by omega, fun _ _ => trivial⟩, by omega⟩
theorem szHeap_ok {a : THeap} {left : Int} (hw : wf a) (hl : 0 ≤ left ∧ left ≤ 1048576) : SzOK (laws_szHeap a left) (sm a) := (szIntS_ok hw.1 hl).two fun n0 hn0 => (szIntS_ok hw.2 hn0).last
theorem szHeapS_ok {a : (List THeap)} {left : Int} (hw : wf a) (hl : 0 ≤ left ∧ left ≤ 1048576) : SzOK (laws_szHeapS a left) (sm a) := by
 refine szRow laws_szHeap hl (wf_list hw).1 (fun x hx l hl => szHeap_ok ((wf_list hw).2 x hx) hl) (fun i x l n hi hx hn => ?_) (fun l => ?_) (by unfold laws_szHeapS; rfl)
 ·simp only [zao, at_nat, hx, hn, Int.ofNat_lt, hi, if_true, Option.bind_some]
  split <;> rfl
 ·simp [zao]
theorem toStringS_ok {a : (List ByteArray)} (h : sm a) : laws_toStringS a = some a := by
 refine toRow (fun x => some x) (mapM_self (fun _ _ => rfl)) (sm_len h) (b := 16) (by omega) (fun i x y o hi hx hy ho => ?_) (fun o => ?_) (by unfold laws_toStringS; rfl)
 ·obtain ⟨q, hq⟩ := ho
  cases hy
  simp only [zao, at_nat, hx, hq, Int.ofNat_lt, hi, if_true, Option.bind_some, Int.toNat_natCast]
 ·simp [zao]
theorem toStmt_ok {a : TStmt} (h : sm a) : laws_toStmt a = some a := by
 unfold laws_toStmt
 rfl
theorem toEdge_ok {a : TEdge} (h : sm a) : laws_toEdge a = some a := by
 unfold laws_toEdge
 rw [toStmt_ok h]
 rfl
theorem toEdgeS_ok {a : (List TEdge)} (h : sm a) : laws_toEdgeS a = some a := by
 refine toRow (laws_toEdge) (mapM_self (fun x hx => toEdge_ok (h.2 x hx))) (sm_len h) (b := 56) (by omega) (fun i x y o hi hx hy ho => ?_) (fun o => ?_) (by unfold laws_toEdgeS; rfl)
 ·obtain ⟨q, hq⟩ := ho
  simp only [zao, at_nat, hx, hq, hy, Int.ofNat_lt, hi, if_true, Option.bind_some, Int.toNat_natCast]
 ·simp [zao]
theorem toProgram_ok {a : TProgram} (h : sm a) : laws_toProgram a = some a := by
 unfold laws_toProgram
 rw [toStringS_ok h.1, toEdgeS_ok h.2]
 rfl
theorem toIntS_ok {a : (List Int)} (h : sm a) : laws_toIntS a = some a := by
 refine toRow (fun x => some x) (mapM_self (fun _ _ => rfl)) (sm_len h) (b := 8) (by omega) (fun i x y o hi hx hy ho => ?_) (fun o => ?_) (by unfold laws_toIntS; rfl)
 ·obtain ⟨q, hq⟩ := ho
  cases hy
  simp only [zao, at_nat, hx, hq, Int.ofNat_lt, hi, if_true, Option.bind_some, Int.toNat_natCast]
 ·simp [zao]
theorem toHeap_ok {a : THeap} (h : sm a) : laws_toHeap a = some a := by
 unfold laws_toHeap
 rw [toIntS_ok h.1, toIntS_ok h.2]
 rfl
theorem toHeapS_ok {a : (List THeap)} (h : sm a) : laws_toHeapS a = some a := by
 refine toRow (laws_toHeap) (mapM_self (fun x hx => toHeap_ok (h.2 x hx))) (sm_len h) (b := 48) (by omega) (fun i x y o hi hx hy ho => ?_) (fun o => ?_) (by unfold laws_toHeapS; rfl)
 ·obtain ⟨q, hq⟩ := ho
  simp only [zao, at_nat, hx, hq, hy, Int.ofNat_lt, hi, if_true, Option.bind_some, Int.toNat_natCast]
 ·simp [zao]
theorem eqIntS_ok {a b : (List Int)} (h : lg a) : laws_eqIntS a b = some (decide (a = b)) := by
 refine eqRow (lg_le h) (fun i x y hi hx hy => ?_) ?_ (by unfold laws_eqIntS; rfl)
 ·simp only [zao, cond_ne, at_nat, hx, hy, Option.bind_some, Int.ofNat_lt, hi, if_true]
  by_cases he : x = y <;> simp [he]
 ·simp [zao]
theorem eqHeap_ok {a b : THeap} (h : lg a) : laws_eqHeap a b = some (decide (a = b)) := by
 unfold laws_eqHeap
 rw [eqIntS_ok h.1, eqIntS_ok h.2]
 rcases a with ⟨a0, a1⟩
 rcases b with ⟨b0, b1⟩
 simp only [Option.bind_some, cond_dec, cond_ne, neS_dec, cond_ndec, THeap.mk.injEq]
 by_cases h0 : a0 = b0 <;> by_cases h1 : a1 = b1 <;> simp [h0, h1]
theorem eqState_ok {a b : TState} (h : lg a) : laws_eqState a b = some (decide (a = b)) := by
 unfold laws_eqState
 rw [eqHeap_ok h]
 rcases a with ⟨a0, a1⟩
 rcases b with ⟨b0, b1⟩
 simp only [Option.bind_some, cond_dec, cond_ne, neS_dec, cond_ndec, TState.mk.injEq]
 by_cases h0 : a0 = b0 <;> by_cases h1 : a1 = b1 <;> simp [h0, h1]
theorem eqStateS_ok {a b : (List TState)} (h : lg a) : laws_eqStateS a b = some (decide (a = b)) := by
 refine eqRow (lg_le h) (fun i x y hi hx hy => ?_) ?_ (by unfold laws_eqStateS; rfl)
 ·simp only [zao, eqState_ok (lg_mem h hx), cond_dec, at_nat, hx, hy, Option.bind_some, Int.ofNat_lt, hi, if_true]
  by_cases he : x = y <;> simp [he]
 ·simp [zao]
theorem eqStringS_ok {a b : (List ByteArray)} (h : lg a) : laws_eqStringS a b = some (decide (a = b)) := by
 refine eqRow (lg_le h) (fun i x y hi hx hy => ?_) ?_ (by unfold laws_eqStringS; rfl)
 ·simp only [zao, neS_dec, cond_ndec, at_nat, hx, hy, Option.bind_some, Int.ofNat_lt, hi, if_true]
  by_cases he : x = y <;> simp [he]
 ·simp [zao]
theorem eqStmt_ok {a b : TStmt} (h : lg a) : laws_eqStmt a b = some (decide (a = b)) := by
 unfold laws_eqStmt
 rcases a with ⟨a0, a1, a2⟩
 rcases b with ⟨b0, b1, b2⟩
 simp only [Option.bind_some, cond_dec, cond_ne, neS_dec, cond_ndec, TStmt.mk.injEq]
 by_cases h0 : a0 = b0 <;> by_cases h1 : a1 = b1 <;> by_cases h2 : a2 = b2 <;> simp [h0, h1, h2]
theorem eqEdge_ok {a b : TEdge} (h : lg a) : laws_eqEdge a b = some (decide (a = b)) := by
 unfold laws_eqEdge
 rw [eqStmt_ok h]
 rcases a with ⟨a0, a1, a2⟩
 rcases b with ⟨b0, b1, b2⟩
 simp only [Option.bind_some, cond_dec, cond_ne, neS_dec, cond_ndec, TEdge.mk.injEq]
 by_cases h0 : a0 = b0 <;> by_cases h1 : a1 = b1 <;> by_cases h2 : a2 = b2 <;> simp [h0, h1, h2]
theorem eqEdgeS_ok {a b : (List TEdge)} (h : lg a) : laws_eqEdgeS a b = some (decide (a = b)) := by
 refine eqRow (lg_le h) (fun i x y hi hx hy => ?_) ?_ (by unfold laws_eqEdgeS; rfl)
 ·simp only [zao, eqEdge_ok (lg_mem h hx), cond_dec, at_nat, hx, hy, Option.bind_some, Int.ofNat_lt, hi, if_true]
  by_cases he : x = y <;> simp [he]
 ·simp [zao]
theorem eqProgram_ok {a b : TProgram} (h : lg a) : laws_eqProgram a b = some (decide (a = b)) := by
 unfold laws_eqProgram
 rw [eqStringS_ok h.1, eqEdgeS_ok h.2]
 rcases a with ⟨a0, a1, a2⟩
 rcases b with ⟨b0, b1, b2⟩
 simp only [Option.bind_some, cond_dec, cond_ne, neS_dec, cond_ndec, TProgram.mk.injEq]
 by_cases h0 : a0 = b0 <;> by_cases h1 : a1 = b1 <;> by_cases h2 : a2 = b2 <;> simp [h0, h1, h2]
theorem eqHeapS_ok {a b : (List THeap)} (h : lg a) : laws_eqHeapS a b = some (decide (a = b)) := by
 refine eqRow (lg_le h) (fun i x y hi hx hy => ?_) ?_ (by unfold laws_eqHeapS; rfl)
 ·simp only [zao, eqHeap_ok (lg_mem h hx), cond_dec, at_nat, hx, hy, Option.bind_some, Int.ofNat_lt, hi, if_true]
  by_cases he : x = y <;> simp [he]
 ·simp [zao]
end Go.Ev


namespace Go.Ev
theorem Tot.some {ρ : Type} {step : Int → Option (Int ⊕ ρ)} (n : Nat) (h : ∀ i : Nat, i < n → Tot (step i) (fun o => o = .inl ((i : Int) + 1) ∨ ∃ r, o = .inr r)) (he : Tot (step n) (fun o => ∃ r, o = .inr r)) : ∃ r, iter step 0 = .some r := by
 have : Tot (iter step 0) (fun _ => True) := by
  refine Tot.loop (fun i s => s = (i : Int)) n rfl fun i s hI hi => ?_
  subst hI
  by_cases hlt : i < n
  ·refine (h i hlt).mono fun o ho => ?_
   rcases ho with rfl | ⟨r, rfl⟩
   ·exact ⟨hlt, rfl⟩
   ·trivial
  ·obtain rfl : i = n := by omega
   refine he.mono fun o ho => ?_
   obtain ⟨r, rfl⟩ := ho
   trivial
 obtain ⟨r, hr, _⟩ := this
 exact ⟨r, hr⟩

theorem within_l1 : impl_within = spec_l1In := by funext n lo hi; rw [within_eq, l1In_eq]
theorem isName_eq : impl_IsName = spec_IsName := by
 funext s
 unfold impl_IsName spec_IsName
 rw [within_l1]
theorem chr_at {s : ByteArray} {i : Nat} (h : i < s.size) : ∃ c, chr? s (i : Int) = some c := by
 unfold chr?
 rw [if_pos (by omega)]
 exact ⟨_, by rw [Int.toNat_natCast, getElem?_pos s i h]; rfl⟩
theorem isName_tot (s : ByteArray) (hs : small s.size) : ∃ b, spec_IsName s = some b := by
 unfold small at hs
 unfold spec_IsName
 obtain ⟨r, hr⟩ := Tot.some (ρ := Unit ⊕ Unit) (step := fun s_1 : Int =>
  cond (ltI s_1 (s.size : Int))
   ((chr? s s_1).bind fun e_10 =>
    cond (ltI e_10 97)
     (some (.inr (.inl ())))
     ((chr? s s_1).bind fun _ =>
      cond (ltI 122 e_10)
       (some (.inr (.inl ())))
       (some (.inl (addI s_1 1)))))
   (some (.inr (.inr ())))) s.size (fun i hi => by
  obtain ⟨c, hc⟩ := chr_at hi
  simp only [zao, hc, Option.bind_some]
  rw [if_pos (by omega), addI_eq (by omega) (by omega)]
  by_cases h1 : c < 97
  ·rw [if_pos h1]; exact Tot.ret (.inr ⟨_, rfl⟩)
  ·rw [if_neg h1]
   by_cases h2 : 122 < c
   ·rw [if_pos h2]; exact Tot.ret (.inr ⟨_, rfl⟩)
   ·rw [if_neg h2]; exact Tot.ret (.inl rfl)) (by
  simp only [zao]
  rw [if_neg (by omega)]
  exact Tot.ret ⟨_, rfl⟩)
 rw [hr, Option.bind_some]
 rcases r with r | r
 ·exact ⟨_, rfl⟩
 ·simp only [Sum.elim_inr, l1In_eq, Option.bind_some]
  exact ⟨_, rfl⟩
def nameB (s : ByteArray) : Bool := (spec_IsName s).getD false
theorem spec_isName (s : ByteArray) (hs : small s.size) : spec_IsName s = some (nameB s) := by
 obtain ⟨b, hb⟩ := isName_tot s hs
 rw [nameB, hb]; rfl

def idxS (vars : List ByteArray) (s : ByteArray) : Int := match vars.findIdx? (fun x => decide (s = x)) with | some j => (j : Int) | none => -1
theorem idxS_in (vars : List ByteArray) (s : ByteArray) : -1 ≤ idxS vars s ∧ idxS vars s < (vars.length : Int) := by
 unfold idxS
 cases h : vars.findIdx? (fun x => decide (s = x)) with
 | none => simp only; omega
 | some j =>
  rw [List.findIdx?_eq_some_iff_getElem] at h
  obtain ⟨hj, _⟩ := h
  simp only
  omega
theorem index_str (xs : List ByteArray) (v : ByteArray) (hl : small xs.length) : slices_Index_string xs v = some (idxS xs v) := by
 unfold slices_Index_string idxS
 rw [iter_list xs (fun (_ : Unit) i => i) (fun _ i x => if decide (v = x) = true then some (.inr (.inl (i : Int))) else some (.inl ())) (fun _ => some (.inr ())) (fun b i x hx => ?_) (fun b => ?_) (), findE]
 ·cases xs.findIdx? (fun x => decide (v = x)) with
  | none => rfl
  | some j => simp
 ·have hlt := (List.getElem?_eq_some_iff.1 hx).1
  unfold small at hl
  rw [at_nat, hx, addI_eq (by omega) (by omega)]
  simp only [ltI, eqS_dec, cond_dec, Option.bind_some]
  rw [if_pos (by omega)]
  by_cases h : v = x <;> simp [h]
 ·simp [ltI]
theorem spec_indexOf (xs : List ByteArray) (v : ByteArray) (hl : small xs.length) : spec_IndexOf xs v = some (idxS xs v) := by
 rw [← index_str xs v hl]
 unfold spec_IndexOf slices_Index_string
 simp only [eqS_dec]
 congr 2
 funext s
 congr 2
 funext e
 rw [show decide (e = v) = decide (v = e) from decide_eq_decide.2 ⟨Eq.symm, Eq.symm⟩]
theorem impl_indexOf (xs : List ByteArray) (v : ByteArray) (hl : small xs.length) : impl_IndexOf xs v = some (idxS xs v) := by
 unfold impl_IndexOf
 rw [index_str xs v hl]
 rfl
theorem contains_str (xs : List ByteArray) (v : ByteArray) (hl : small xs.length) : slices_Contains_string xs v = some (decide (0 ≤ idxS xs v)) := by
 unfold slices_Contains_string
 rw [index_str xs v hl]
 rfl

def smN (vars : List ByteArray) : Prop := small vars.length ∧ ∀ s ∈ vars, small s.size
def avB (vars : List ByteArray) : Bool := (List.range vars.length).all (fun i => nameB (vars.getD i ByteArray.empty) && decide (idxS vars (vars.getD i ByteArray.empty) = (i : Int))) && decide (1 ≤ (vars.length : Int) ∧ (vars.length : Int) ≤ 4)
theorem spec_areVars (vars : List ByteArray) (h : smN vars) : spec_AreVars vars = some (avB vars) := by
 obtain ⟨h1, h2⟩ := h
 have hn := h1
 unfold small at h1
 unfold spec_AreVars avB
 refine Tot.eq (Tot.bind (P := (· = if (List.range vars.length).all (fun i => nameB (vars.getD i ByteArray.empty) && decide (idxS vars (vars.getD i ByteArray.empty) = (i : Int))) then .inr () else .inl ())) (Tot.all vars.length (fun i => nameB (vars.getD i ByteArray.empty) && decide (idxS vars (vars.getD i ByteArray.empty) = (i : Int))) () () (fun i hi => ?_) ?_ (by simp)) fun r hr => ?_)
 ·have hm : vars.getD i ByteArray.empty ∈ vars := by simp [List.getD, hi]
  simp only [zao, getD_at hi ByteArray.empty, Option.bind_some, spec_isName _ (h2 _ hm), spec_indexOf vars _ hn, cond_ne]
  rw [if_pos (by omega), addI_eq (by omega) (by omega)]
  cases nameB (vars.getD i ByteArray.empty)
  ·exact Tot.ret rfl
  ·by_cases h : idxS vars (vars.getD i ByteArray.empty) = (i : Int)
   ·simp only [h, cond_true, if_true, decide_true, Bool.and_true]; exact Tot.ret rfl
   ·simp only [h, cond_true, if_false, decide_false, Bool.and_false]; exact Tot.ret rfl
 ·simp only [zao]
  rw [if_neg (by omega)]
  exact Tot.ret rfl
 ·subst hr
  simp only [l1In_eq]
  cases (List.range vars.length).all (fun i => nameB (vars.getD i ByteArray.empty) && decide (idxS vars (vars.getD i ByteArray.empty) = (i : Int)))
  ·exact Tot.ret rfl
  ·exact Tot.ret rfl
theorem impl_areVars (vars : List ByteArray) (h : smN vars) : impl_AreVars vars = some (avB vars) := by
 obtain ⟨h1, h2⟩ := h
 have hn := h1
 unfold small at h1
 unfold impl_AreVars avB
 refine Tot.eq (Tot.bind (P := (· = if (List.range vars.length).all (fun i => nameB (vars.getD i ByteArray.empty) && decide (idxS vars (vars.getD i ByteArray.empty) = (i : Int))) then .inr () else .inl ())) (Tot.all vars.length (fun i => nameB (vars.getD i ByteArray.empty) && decide (idxS vars (vars.getD i ByteArray.empty) = (i : Int))) () () (fun i hi => ?_) ?_ (by simp)) fun r hr => ?_)
 ·have hm : vars.getD i ByteArray.empty ∈ vars := by simp [List.getD, hi]
  simp only [zao, getD_at hi ByteArray.empty, Option.bind_some, isName_eq, spec_isName _ (h2 _ hm), impl_indexOf vars _ hn, cond_ne]
  rw [if_pos (by omega), addI_eq (by omega) (by omega)]
  cases nameB (vars.getD i ByteArray.empty)
  ·exact Tot.ret rfl
  ·by_cases h : idxS vars (vars.getD i ByteArray.empty) = (i : Int)
   ·simp only [h, cond_true, if_true, decide_true, Bool.and_true]; exact Tot.ret rfl
   ·simp only [h, cond_true, if_false, decide_false, Bool.and_false]; exact Tot.ret rfl
 ·simp only [zao]
  rw [if_neg (by omega)]
  exact Tot.ret rfl
 ·subst hr
  simp only [within_eq]
  cases (List.range vars.length).all (fun i => nameB (vars.getD i ByteArray.empty) && decide (idxS vars (vars.getD i ByteArray.empty) = (i : Int)))
  ·exact Tot.ret rfl
  ·exact Tot.ret rfl

def nk (k : Int) : Int := if k = 1 then 0 else if k = 2 ∨ k = 3 ∨ k = 6 ∨ k = 8 ∨ k = 9 ∨ k = 10 then 1 else if k = 4 ∨ k = 5 ∨ k = 7 ∨ k = 11 ∨ k = 12 then 2 else -1
theorem kinds {k : Int} (h : 1 ≤ k ∧ k ≤ 12) : k = 1 ∨ k = 2 ∨ k = 3 ∨ k = 4 ∨ k = 5 ∨ k = 6 ∨ k = 7 ∨ k = 8 ∨ k = 9 ∨ k = 10 ∨ k = 11 ∨ k = 12 := by omega
theorem spec_namesOf (k : Int) : spec_NamesOf k = some (nk k) := by
 by_cases h : 1 ≤ k ∧ k ≤ 12
 ·rcases kinds h with rfl | rfl | rfl | rfl | rfl | rfl | rfl | rfl | rfl | rfl | rfl | rfl <;> rfl
 ·unfold spec_NamesOf nk
  simp only [cond_eq]
  rw [if_neg (by omega), if_neg (by omega), if_neg (by omega), if_neg (by omega), if_neg (by omega), if_neg (by omega), if_neg (by omega), if_neg (by omega), if_neg (by omega), if_neg (by omega), if_neg (by omega), if_neg (by omega), if_neg (by omega), if_neg (by omega), if_neg (by omega)]
theorem impl_namesOf (k : Int) : impl_NamesOf k = some (nk k) := by
 unfold impl_NamesOf
 rw [within_eq]
 by_cases h : 1 ≤ k ∧ k ≤ 12
 ·simp only [h, and_self, decide_true, Option.bind_some, cond_true]
  rcases kinds h with rfl | rfl | rfl | rfl | rfl | rfl | rfl | rfl | rfl | rfl | rfl | rfl <;> rfl
 ·simp only [h, decide_false, Option.bind_some, cond_false]
  unfold nk
  rw [if_neg (by omega), if_neg (by omega), if_neg (by omega)]
end Go.Ev


namespace Go.Ev
def stB (vars : List ByteArray) (s : TStmt) : Bool :=
 avB vars && (decide (0 ≤ nk s.kind) && ((if nk s.kind < 1 then decide (s.a = ⟨#[]⟩) else decide (0 ≤ idxS vars s.a)) && (if nk s.kind < 2 then decide (s.b = ⟨#[]⟩) else decide (0 ≤ idxS vars s.b))))
theorem nk_rng (k : Int) : nk k = -1 ∨ nk k = 0 ∨ nk k = 1 ∨ nk k = 2 := by
 unfold nk
 split
 ·simp
 ·split
  ·simp
  ·split <;> simp
theorem spec_isStmt (vars : List ByteArray) (s : TStmt) (h : smN vars) : spec_IsStmt vars s = some (stB vars s) := by
 unfold spec_IsStmt stB
 simp only [spec_namesOf, Option.bind_some, spec_areVars vars h, zao, cond_le, spec_indexOf vars _ h.1, neS_dec, cond_ndec]
 cases avB vars
 ·rfl
 ·simp only [cond_true, Bool.true_and]
  rcases nk_rng s.kind with h0 | h0 | h0 | h0 <;> rw [h0]
  ·rfl
  ·simp
   by_cases h1 : s.a = ⟨#[]⟩ <;> by_cases h2 : s.b = ⟨#[]⟩ <;> simp [h1, h2]
  ·simp
   by_cases h1 : 0 ≤ idxS vars s.a <;> by_cases h2 : s.b = ⟨#[]⟩ <;> simp [h1, h2]
  ·simp
   by_cases h1 : 0 ≤ idxS vars s.a <;> simp [h1, leI]
theorem impl_isStmt (vars : List ByteArray) (s : TStmt) (h : smN vars) : impl_IsStmt vars s = some (stB vars s) := by
 unfold impl_IsStmt stB
 rw [impl_areVars vars h, Option.bind_some]
 cases avB vars
 ·rfl
 ·simp only [cond_true, Bool.true_and]
  have hn : impl_Stmt_hasNames s (fun x0 => impl_IsStmt_1 x0 vars) = some (decide (0 ≤ nk s.kind) && ((if nk s.kind < 1 then decide (s.a = ⟨#[]⟩) else decide (0 ≤ idxS vars s.a)) && (if nk s.kind < 2 then decide (s.b = ⟨#[]⟩) else decide (0 ≤ idxS vars s.b)))) := by
   unfold impl_Stmt_hasNames impl_IsStmt_1
   simp only [impl_namesOf, Option.bind_some, contains_str vars _ h.1]
   rcases nk_rng s.kind with h0 | h0 | h0 | h0 <;> rw [h0]
   ·by_cases h1 : s.a = ⟨#[]⟩
    ·by_cases h2 : s.b = ⟨#[]⟩
     ·rw [iter_inl (s' := 1) (by simp [ltI, leI, at?, neS_dec, h1]; rfl), iter_inl (s' := 2) (by simp [ltI, leI, at?, neS_dec, h2]; rfl), iter_inr (r := .inr ()) (by simp [ltI])]
      simp [leI]
     ·rw [iter_inl (s' := 1) (by simp [ltI, leI, at?, neS_dec, h1]; rfl), iter_inr (r := .inl ()) (by simp [ltI, leI, at?, neS_dec, h2])]
      simp
    ·rw [iter_inr (r := .inl ()) (by simp [ltI, leI, at?, neS_dec, h1])]
     simp
   ·by_cases h1 : s.a = ⟨#[]⟩
    ·by_cases h2 : s.b = ⟨#[]⟩
     ·rw [iter_inl (s' := 1) (by simp [ltI, leI, at?, neS_dec, h1]; rfl), iter_inl (s' := 2) (by simp [ltI, leI, at?, neS_dec, h2]; rfl), iter_inr (r := .inr ()) (by simp [ltI])]
      simp [leI, h1, h2]
     ·rw [iter_inl (s' := 1) (by simp [ltI, leI, at?, neS_dec, h1]; rfl), iter_inr (r := .inl ()) (by simp [ltI, leI, at?, neS_dec, h2])]
      simp [h2]
    ·rw [iter_inr (r := .inl ()) (by simp [ltI, leI, at?, neS_dec, h1])]
     simp [h1]
   ·by_cases h1 : 0 ≤ idxS vars s.a
    ·by_cases h2 : s.b = ⟨#[]⟩
     ·rw [iter_inl (s' := 1) (by simp [ltI, leI, at?, neS_dec, h1]; rfl), iter_inl (s' := 2) (by simp [ltI, leI, at?, neS_dec, h2]; rfl), iter_inr (r := .inr ()) (by simp [ltI])]
      simp [leI, h1, h2]
     ·rw [iter_inl (s' := 1) (by simp [ltI, leI, at?, neS_dec, h1]; rfl), iter_inr (r := .inl ()) (by simp [ltI, leI, at?, neS_dec, h2])]
      simp [h2]
    ·rw [iter_inr (r := .inl ()) (by simp [ltI, leI, at?, neS_dec, h1])]
     simp [h1]
   ·by_cases h1 : 0 ≤ idxS vars s.a
    ·by_cases h2 : 0 ≤ idxS vars s.b
     ·rw [iter_inl (s' := 1) (by simp [ltI, leI, at?, neS_dec, h1]; rfl), iter_inl (s' := 2) (by simp [ltI, leI, at?, neS_dec, h2]; rfl), iter_inr (r := .inr ()) (by simp [ltI])]
      simp [leI, h1, h2]
     ·rw [iter_inl (s' := 1) (by simp [ltI, leI, at?, neS_dec, h1]; rfl), iter_inr (r := .inl ()) (by simp [ltI, leI, at?, neS_dec, h2])]
      simp [h2]
    ·rw [iter_inr (r := .inl ()) (by simp [ltI, leI, at?, neS_dec, h1])]
     simp [h1]
  rw [hn, Option.bind_some]

def zE : TEdge := ⟨0, 0, ⟨0, ⟨#[]⟩, ⟨#[]⟩⟩⟩
def edB (p : TProgram) (e : TEdge) : Bool := decide (0 ≤ e.from_ ∧ e.from_ ≤ subI p.points 1) && (decide (0 ≤ e.to_ ∧ e.to_ ≤ subI p.points 1) && stB p.vars e.stmt)
def prB (p : TProgram) : Bool := avB p.vars && (decide (1 ≤ p.points ∧ p.points ≤ 12) && (decide ((p.edges.length : Int) ≤ 24) && p.edges.all (edB p)))
def smP (p : TProgram) : Prop := smN p.vars ∧ small p.edges.length
theorem spec_isProgram (p : TProgram) (h : smP p) : spec_IsProgram p = some (prB p) := by
 obtain ⟨h1, h2⟩ := h
 unfold small at h2
 have hall : (List.range p.edges.length).all (fun i => edB p (p.edges.getD i zE)) = p.edges.all (edB p) := by
  rw [Bool.eq_iff_iff, List.all_eq_true, List.all_eq_true]
  constructor
  ·intro h e he
   obtain ⟨i, hi, rfl⟩ := List.getElem_of_mem he
   have := h i (List.mem_range.2 hi)
   simpa [List.getD, hi] using this
  ·intro h i hi
   have hi := List.mem_range.1 hi
   have := h p.edges[i] (List.getElem_mem hi)
   simpa [List.getD, hi] using this
 unfold spec_IsProgram prB
 refine Tot.eq (Tot.bind (P := (· = if (List.range p.edges.length).all (fun i => edB p (p.edges.getD i zE)) then .inr () else .inl ())) (Tot.all p.edges.length (fun i => edB p (p.edges.getD i zE)) () () (fun i hi => ?_) ?_ (by simp)) fun r hr => ?_)
 ·simp only [zao, getD_at hi zE, Option.bind_some, l1In_eq, cond_dec, spec_isStmt _ _ h1]
  rw [if_pos (by omega), addI_eq (by omega) (by omega)]
  unfold edB
  by_cases q1 : 0 ≤ (p.edges.getD i zE).from_ ∧ (p.edges.getD i zE).from_ ≤ subI p.points 1
  ·by_cases q2 : 0 ≤ (p.edges.getD i zE).to_ ∧ (p.edges.getD i zE).to_ ≤ subI p.points 1
   ·rw [if_pos q1, if_pos q2]
    cases q3 : stB p.vars (p.edges.getD i zE).stmt
    ·simp only [q1, q2, q3, and_self, decide_true, Bool.true_and]; exact Tot.ret rfl
    ·simp only [q1, q2, q3, and_self, decide_true, Bool.true_and]; exact Tot.ret rfl
   ·rw [if_pos q1, if_neg q2]
    simp only [q2, decide_false, Bool.false_and, Bool.and_false]; exact Tot.ret rfl
  ·rw [if_neg q1]
   simp only [q1, decide_false, Bool.false_and]; exact Tot.ret rfl
 ·simp only [zao]
  rw [if_neg (by omega)]
  exact Tot.ret rfl
 ·subst hr
  rw [hall, spec_areVars _ h1]
  simp only [l1In_eq]
  cases p.edges.all (edB p)
  ·exact Tot.ret (by simp)
  ·cases avB p.vars
   ·exact Tot.ret rfl
   ·simp only [Sum.elim_inr, Option.bind_some, cond_true, cond_dec, if_true]
    split
    ·rename_i h; simp only [h, and_self, decide_true, leI]; exact Tot.ret (by simp)
    ·rename_i h; simp only [h, decide_false]; exact Tot.ret rfl
theorem impl_isProgram (p : TProgram) (h : smP p) : impl_IsProgram p = some (prB p) := by
 obtain ⟨h1, h2⟩ := h
 have h2' := h2
 unfold small at h2'
 have hf : ∀ x ∈ p.edges, (fun x0 => impl_IsProgram_1 x0 p) x = some (!edB p x) := fun e _ => by
  simp only [impl_IsProgram_1, within_eq, Option.bind_some, cond_dec, impl_isStmt _ _ h1]
  unfold edB
  by_cases q1 : 0 ≤ e.from_ ∧ e.from_ ≤ subI p.points 1
  ·by_cases q2 : 0 ≤ e.to_ ∧ e.to_ ≤ subI p.points 1
   ·rw [if_pos q1, if_pos q2]
    simp [q1, q2, notB]
   ·rw [if_pos q1, if_neg q2]
    simp [q2]
  ·rw [if_neg q1]
   simp [q1]
 have hany : slices_ContainsFunc_Edge p.edges (fun x0 => impl_IsProgram_1 x0 p) = some (p.edges.any (fun x => !edB p x)) := by
  unfold slices_ContainsFunc_Edge slices_IndexFunc_Edge
  rw [indexF p.edges _ (fun x => !edB p x) hf h2, ← containsF_of]
  cases p.edges.findIdx? (fun x => !edB p x) <;> rfl
 unfold impl_IsProgram prB
 simp only [impl_areVars _ h1, Option.bind_some, within_eq, zao, hany]
 cases avB p.vars
 ·rfl
 ·simp only [cond_true, cond_dec, Bool.true_and]
  by_cases h : 1 ≤ p.points ∧ p.points ≤ 12
  ·rw [if_pos h]
   simp only [h, and_self, decide_true, Bool.true_and]
   by_cases h3 : 24 < (p.edges.length : Int)
   ·rw [if_pos h3]
    simp; omega
   ·rw [if_neg h3]
    have : (p.edges.length : Int) ≤ 24 := by omega
    simp only [this, decide_true, Bool.true_and, notB, Option.some.injEq]
    rw [List.any_eq_not_all_not]
    simp
  ·rw [if_neg h]
   simp [h]
end Go.Ev


namespace Go.Ev
def okH (h : THeap) : Prop := h.vars.length ≤ 100 ∧ h.next.length ≤ 100
theorem okH.v {h : THeap} (o : okH h) : small h.vars.length := by have := o.1; unfold small; omega
theorem okH.n {h : THeap} (o : okH h) : small h.next.length := by have := o.2; unfold small; omega
theorem okH.vn {h : THeap} (o : okH h) : small (h.vars ++ h.next).length := by have := o.1; have := o.2; unfold small; simp; omega
def lkB (h : THeap) : Bool := decide ((ordL h.next h.vars).length < h.next.length)
theorem spec_hasLeak (h : THeap) (o : okH h) : spec_HasLeak h = some (lkB h) := by
 unfold spec_HasLeak lkB
 rw [l7Order h o.v o.n]
 simp [ltI]
theorem impl_hasLeak (h : THeap) (o : okH h) : impl_HasLeak h = some (lkB h) := by
 unfold impl_HasLeak lkB
 rw [met h o.v o.n]
 simp [ltI]

def ixI (xs : List Int) (v : Int) : Int := match xs.findIdx? (fun x => decide (v = x)) with | some j => (j : Int) | none => -1
theorem posF_head (v : Int) : ∀ (xs : List Int) (i : Nat), (posF v i xs).head? = (xs.findIdx? (fun x => decide (v = x))).map fun j => ((i + j : Nat) : Int)
 | [], i => rfl
 | x :: xs, i => by
  rw [posF, List.findIdx?_cons]
  by_cases h : v = x
  ·subst h
   simp
  ·have h' : ¬ x = v := fun e => h e.symm
   simp only [h, h', if_false, decide_false, Bool.false_eq_true]
   rw [posF_head v xs (i + 1)]
   cases xs.findIdx? (fun x => decide (v = x)) with
   | none => rfl
   | some j => simp; omega
theorem spec_new (xs : List Int) (v : Int) (hl : small xs.length) : spec_l7New xs v = some (ixI xs v) := by
 unfold spec_l7New ixI
 rw [positions xs v hl, Option.bind_some]
 have := posF_head v xs 0
 cases hp : posF v 0 xs with
 | nil =>
  rw [hp] at this
  cases hf : xs.findIdx? (fun x => decide (v = x)) with
  | none => simp [eqI]
  | some j => rw [hf] at this; cases this
 | cons p r =>
  rw [hp] at this
  cases hf : xs.findIdx? (fun x => decide (v = x)) with
  | none => rw [hf] at this; cases this
  | some j =>
   rw [hf] at this
   simp at this
   subst this
   have : ¬ ((r.length : Int) + 1 = 0) := by omega
   simp [eqI, this, at?]
theorem impl_new (xs : List Int) (v : Int) (hl : small xs.length) : impl_CanonHeap_1 v xs = some (ixI xs v) := by
 unfold impl_CanonHeap_1 ixI
 rw [index_int xs v hl]
 rfl
def canF (h : THeap) : THeap := if cellsB h = true then ⟨h.vars.map (ixI (ordL h.next h.vars)), (ordL h.next h.vars).map fun c => ixI (ordL h.next h.vars) (h.next.getD c.toNat 0)⟩ else ⟨[], []⟩
theorem map_flat {α γ : Type} (xs : List α) (f : α → γ) : xs.flatMap (fun x => [f x]) = xs.map f := by
 induction xs with
 | nil => rfl
 | cons x xs ih => simp [ih]
theorem ord_seen (h : THeap) : Seen h.next (ordL h.next h.vars) := ordSeen h.next h.vars [] ⟨by simp, by simp⟩
theorem canon_loop (xs : List Int) (F : Int → Option Int) (f : Int → Int) (hF : ∀ x ∈ xs, F x = some (f x)) (hl : xs.length ≤ 1000) :
 iter (ρ := (List Int)) (fun s_8 : Int × (List Int) =>
         cond (ltI s_8.1 (xs.length : Int))
          ((at? xs s_8.1).bind fun e_28 =>
           (F e_28).bind fun y_33 =>
            (room (s_8.2.length + [y_33].length) 8).bind fun _ =>
             some (.inl (addI s_8.1 1, s_8.2 ++ [y_33])))
          (some (.inr s_8.2))) (0, []) = some (xs.map f) := by
 refine Tot.eq (Tot.flat (fun b i => (i, b)) 0 xs (fun x => [f x]) (acc := []) rfl (by simp [map_flat]) (fun i x b hx hb => ?_) fun b => ?_)
 ·have hi := (List.getElem?_eq_some_iff.1 hx).1
  rw [map_flat] at hb
  simp only [List.length_nil, List.length_map, List.length_singleton] at hb
  simp only [Int.zero_add, zao, at_nat, hx, Option.bind_some, hF x (List.mem_of_getElem? hx), List.length_singleton]
  rw [if_pos (by omega), room_small (by omega) (by omega), addI_eq (by omega) (by omega)]
  exact Tot.ret rfl
 ·simp only [Int.zero_add, zao]
  rw [if_neg (by omega)]
  exact Tot.ret rfl
theorem ord_at (h : THeap) : ∀ c ∈ ordL h.next h.vars, at? h.next c = some (h.next.getD c.toNat 0) := fun c hc => at_in ((ord_seen h).rng c hc)
theorem spec_canon (h : THeap) (o : okH h) : spec_CanonHeap h = some (canF h) := by
 unfold spec_CanonHeap canF
 have hl := (ord_seen h).len
 have o2 := o.2
 have o1 := o.1
 have hs : small (ordL h.next h.vars).length := by unfold small; omega
 simp only [l7Cells h o.v o.n, Option.bind_some, l7Order h o.v o.n]
 cases cellsB h
 ·rfl
 ·simp only [cond_true, if_true]
  rw [canon_loop h.vars (fun c => spec_l7New (ordL h.next h.vars) c) (ixI (ordL h.next h.vars)) (fun x _ => spec_new _ x hs) (by omega)]
  simp only [Option.bind_some]
  have := canon_loop (ordL h.next h.vars) (fun c => (at? h.next c).bind fun e => spec_l7New (ordL h.next h.vars) e) (fun c => ixI (ordL h.next h.vars) (h.next.getD c.toNat 0)) (fun x hx => by
   simp only [ord_at h x hx, Option.bind_some]
   exact spec_new _ _ hs) (by omega)
  simp only [Option.bind_assoc] at this
  rw [this]
  rfl
theorem impl_canon (h : THeap) (o : okH h) : impl_CanonHeap h = some (canF h) := by
 unfold impl_CanonHeap canF
 have hl := (ord_seen h).len
 have o2 := o.2
 have o1 := o.1
 have hs : small (ordL h.next h.vars).length := by unfold small; omega
 simp only [areCells h o.vn o.v o.n, Option.bind_some, met h o.v o.n]
 cases cellsB h
 ·rfl
 ·simp only [cond_true, if_true]
  rw [canon_loop h.vars (fun c => impl_CanonHeap_1 c (ordL h.next h.vars)) (ixI (ordL h.next h.vars)) (fun x _ => impl_new _ x hs) (by omega)]
  simp only [Option.bind_some]
  have := canon_loop (ordL h.next h.vars) (fun c => (at? h.next c).bind fun e => impl_CanonHeap_1 e (ordL h.next h.vars)) (fun c => ixI (ordL h.next h.vars) (h.next.getD c.toNat 0)) (fun x hx => by
   simp only [ord_at h x hx, Option.bind_some]
   exact impl_new _ _ hs) (by omega)
  simp only [Option.bind_assoc] at this
  rw [this]
  rfl
theorem canF_len (h : THeap) : (canF h).vars.length ≤ h.vars.length ∧ (canF h).next.length ≤ h.next.length := by
 have hl := (ord_seen h).len
 unfold canF
 split
 ·simp; exact hl
 ·simp

def finF (x : THeap) : THeap × Int := if lkB x = true then (⟨[], []⟩, 4) else (canF x, 0)
theorem spec_fin (x : THeap) (o : okH x) : ((spec_HasLeak x).bind fun y_54 => cond y_54 (some ((⟨[], []⟩ : THeap), (4 : Int))) ((spec_CanonHeap x).bind fun y_58 => some (y_58, 0))) = some (finF x) := by
 rw [spec_hasLeak x o, spec_canon x o, finF]
 cases lkB x <;> rfl
theorem impl_fin (x : THeap) (o : okH x) : ((impl_HasLeak x).bind fun y_54 => cond y_54 (some ((⟨[], []⟩ : THeap), (4 : Int))) ((impl_CanonHeap x).bind fun y_58 => some (y_58, 0))) = some (finF x) := by
 rw [impl_hasLeak x o, impl_canon x o, finF]
 cases lkB x <;> rfl

theorem decI_bit (c x : Int) (hx : -1 ≤ x ∧ x ≤ 1000) : ((spec_l1Bit (ltI c x)).bind fun y => some (subI x y)) = some (decI c x) := by
 unfold decI ltI
 by_cases h : c < x
 ·simp [h, spec_l1Bit]
 ·simp only [h, decide_false, if_false]
  show some (subI x 0) = some x
  rw [subI_eq (by omega) (by omega)]
  simp
theorem spec_without (h : THeap) (c : Int) (o : okH h) (hc : 0 ≤ c ∧ c < (h.next.length : Int)) (hv : ∀ x ∈ h.vars, -1 ≤ x ∧ x ≤ 1000) (hn : ∀ x ∈ h.next, -1 ≤ x ∧ x ≤ 1000) :
 spec_l8Without h c = some ⟨h.vars.map (decI c), (h.next.take c.toNat ++ h.next.drop (c.toNat + 1)).map (decI c)⟩ := by
 have o1 := o.1
 have o2 := o.2
 unfold spec_l8Without
 have h1 : iter (ρ := (List Int)) (fun s_1 : Int × (List Int) =>
  cond (ltI s_1.1 (h.vars.length : Int))
   ((at? h.vars s_1.1).bind fun e_16 =>
    (at? h.vars s_1.1).bind fun _ =>
     (spec_l1Bit (ltI c e_16)).bind fun y_26 =>
      (room (s_1.2.length + [subI e_16 y_26].length) 8).bind fun _ =>
       some (.inl (addI s_1.1 1, s_1.2 ++ [subI e_16 y_26])))
   (some (.inr s_1.2))) (0, []) = some (h.vars.map (decI c)) := by
  refine Tot.eq (Tot.flat (fun b i => (i, b)) 0 h.vars (fun x => [decI c x]) (acc := []) rfl (by simp [map_flat]) (fun i x b hx hb => ?_) fun b => ?_)
  ·have hi := (List.getElem?_eq_some_iff.1 hx).1
   rw [map_flat] at hb
   simp only [List.length_nil, List.length_map, List.length_singleton] at hb
   have hd := decI_bit c x (hv x (List.mem_of_getElem? hx))
   obtain ⟨y, hy, hyd⟩ := Option.bind_eq_some_iff.1 hd
   simp only [Option.some.injEq] at hyd
   simp only [Int.zero_add, zao, at_nat, hx, Option.bind_some, hy, hyd, List.length_singleton]
   rw [if_pos (by omega), room_small (by omega) (by omega), addI_eq (by omega) (by omega)]
   exact Tot.ret rfl
  ·simp only [Int.zero_add, zao]
   rw [if_neg (by omega)]
   exact Tot.ret rfl
 rw [h1, Option.bind_some]
 obtain ⟨k, rfl⟩ := Int.eq_ofNat_of_zero_le hc.1
 have hk : k < h.next.length := by omega
 have h2 : iter (ρ := (List Int)) (fun s_42 : Int × (List Int) =>
       cond (ltI s_42.1 (h.next.length : Int))
        (cond (neI s_42.1 (k : Int))
         ((at? h.next s_42.1).bind fun e_58 =>
          (at? h.next s_42.1).bind fun _ =>
           (spec_l1Bit (ltI (k : Int) e_58)).bind fun y_68 =>
            (room (s_42.2.length + [subI e_58 y_68].length) 8).bind fun _ =>
             some (.inl (addI s_42.1 1, s_42.2 ++ [subI e_58 y_68])))
         (some (.inl (addI s_42.1 1, s_42.2))))
        (some (.inr s_42.2))) (0, []) = some ((h.next.take k ++ h.next.drop (k + 1)).map (decI k)) := by
  have key : Tot (iter (ρ := (List Int)) (fun s_42 : Int × (List Int) =>
   cond (ltI s_42.1 (h.next.length : Int))
    (cond (neI s_42.1 (k : Int))
     ((at? h.next s_42.1).bind fun e_58 =>
      (at? h.next s_42.1).bind fun _ =>
       (spec_l1Bit (ltI (k : Int) e_58)).bind fun y_68 =>
        (room (s_42.2.length + [subI e_58 y_68].length) 8).bind fun _ =>
         some (.inl (addI s_42.1 1, s_42.2 ++ [subI e_58 y_68])))
     (some (.inl (addI s_42.1 1, s_42.2))))
    (some (.inr s_42.2))) (0, [])) (· = (h.next.take k ++ h.next.drop (k + 1)).map (decI k)) := by
   refine Tot.loop (fun i s => s = ((i : Int), (((h.next.take i).take k ++ (h.next.take i).drop (k + 1)).map (decI k)))) h.next.length (by simp) fun i s hI hi => ?_
   subst hI
   simp only [zao, cond_ne]
   by_cases hlt : i < h.next.length
   ·rw [if_pos (by omega), addI_eq (by omega) (by omega)]
    have ht : h.next.take (i + 1) = h.next.take i ++ [h.next[i]] := take_snoc1 hlt
    by_cases he : i = k
    ·subst he
     rw [if_pos rfl]
     refine Tot.ret ⟨hlt, ?_⟩
     rw [ht]
     have e1 : (h.next.take i ++ [h.next[i]]).take i = (h.next.take i).take i := List.take_append_of_le_length (by simp; omega)
     have e2 : (h.next.take i ++ [h.next[i]]).drop (i + 1) = [] := List.drop_eq_nil_of_le (by simp; omega)
     have e3 : (h.next.take i).drop (i + 1) = [] := List.drop_eq_nil_of_le (by simp; omega)
     rw [e1, e2, e3]
     rfl
    ·rw [if_neg (by omega)]
     have hx : h.next[i]? = some h.next[i] := List.getElem?_eq_getElem hlt
     have hd := decI_bit k h.next[i] (hn _ (List.getElem_mem hlt))
     obtain ⟨y, hy, hyd⟩ := Option.bind_eq_some_iff.1 hd
     simp only [Option.some.injEq] at hyd
     simp only [at_nat, hx, Option.bind_some, hy, hyd, List.length_singleton]
     rw [room_small (by simp; omega) (by omega)]
     refine Tot.ret ⟨hlt, ?_⟩
     rw [ht]
     congr 1
     by_cases hik : i < k
     ·have e1 : (h.next.take i ++ [h.next[i]]).drop (k + 1) = [] := List.drop_eq_nil_of_le (by simp; omega)
      have e2 : (h.next.take i).drop (k + 1) = [] := List.drop_eq_nil_of_le (by simp; omega)
      have e3 : (h.next.take i ++ [h.next[i]]).take k = h.next.take i ++ [h.next[i]] := List.take_of_length_le (by simp; omega)
      have e4 : (h.next.take i).take k = h.next.take i := List.take_of_length_le (by simp; omega)
      rw [e1, e2, e3, e4]
      simp only [List.append_nil, List.map_append, List.map_cons, List.map_nil]
     ·have e1 : (h.next.take i ++ [h.next[i]]).take k = (h.next.take i).take k := List.take_append_of_le_length (by simp; omega)
      have e2 : (h.next.take i ++ [h.next[i]]).drop (k + 1) = (h.next.take i).drop (k + 1) ++ [h.next[i]] := List.drop_append_of_le_length (by simp; omega)
      rw [e1, e2]
      simp
   ·rw [if_neg (by omega)]
    obtain rfl : i = h.next.length := by omega
    refine Tot.ret ?_
    show _ = _
    simp
  exact key.eq
 rw [h2]
 simp
end Go.Ev


namespace Go.Ev
theorem spec_copy (h : THeap) (o : okH h) : spec_l7Copy h = some h := by
 unfold spec_l7Copy
 have o1 := o.1
 have o2 := o.2
 simp [room_small (show ([] : List Int).length + h.vars.length ≤ 4000000 by simp; omega) (show 8 ≤ 1000 by omega), room_small (show ([] : List Int).length + h.next.length ≤ 4000000 by simp; omega) (show 8 ≤ 1000 by omega)]
 simp [room_small (show h.vars.length ≤ 4000000 by omega) (show 8 ≤ 1000 by omega), room_small (show h.next.length ≤ 4000000 by omega) (show 8 ≤ 1000 by omega)]
structure Good (nv : Nat) (h : THeap) : Prop where
 v1 : h.vars.length = nv
 v2 : 1 ≤ nv ∧ nv ≤ 4
 n1 : h.next.length ≤ 6
 cv : ∀ x ∈ h.vars, -1 ≤ x ∧ x < (h.next.length : Int)
 cn : ∀ x ∈ h.next, -1 ≤ x ∧ x < (h.next.length : Int)
theorem good_of {nv : Nat} {h : THeap} (hh : isHeapB (nv : Int) h = true) : Good nv h := by
 unfold isHeapB at hh
 simp only [Bool.and_eq_true, decide_eq_true_eq, cellsB, List.all_eq_true, inH] at hh
 obtain ⟨⟨⟨⟨⟨h1, h2⟩, h3⟩, h4, h5⟩, _⟩, _⟩ := hh
 exact ⟨by omega, by omega, by omega, fun x hx => by have := h4 x hx; omega, fun x hx => by have := h5 x hx; omega⟩
theorem Good.ok {nv : Nat} {h : THeap} (g : Good nv h) : okH h := ⟨by have := g.v1; have := g.v2; omega, by have := g.n1; omega⟩
theorem ok_set {h : THeap} {a : Nat} {x : Int} (o : okH h) : okH ⟨h.vars.set a x, h.next⟩ := ⟨by simpa using o.1, o.2⟩
theorem ok_setn {h : THeap} {a : Nat} {x : Int} (o : okH h) : okH ⟨h.vars, h.next.set a x⟩ := ⟨o.1, by simpa using o.2⟩
theorem getD_mem {xs : List Int} {i : Int} (h : 0 ≤ i ∧ i < (xs.length : Int)) : xs.getD i.toNat 0 ∈ xs := by
 have : i.toNat < xs.length := by omega
 simp [List.getD, this]
theorem impl_at (h : THeap) (vars : List ByteArray) (nm : ByteArray) (hn : smN vars) (hl : h.vars.length = vars.length) : impl_Heap_at h vars nm = some (if 0 ≤ idxS vars nm then h.vars.getD (idxS vars nm).toNat 0 else -1) := by
 unfold impl_Heap_at
 have hr := idxS_in vars nm
 rw [impl_indexOf vars nm hn.1, Option.bind_some, cond_le]
 by_cases h0 : 0 ≤ idxS vars nm
 ·rw [if_pos h0, if_pos h0, at_in (by omega)]; rfl
 ·rw [if_neg h0, if_neg h0]
theorem max0 (x : Int) : spec_l1Max 0 x = some (if x < 0 then 0 else x) := by
 unfold spec_l1Max
 rw [zao]
 split <;> rfl
theorem isTest_eq (s : TStmt) : impl_IsTest s = some (decide (9 ≤ s.kind ∧ s.kind ≤ 12)) ∧ spec_IsTest s = some (decide (9 ≤ s.kind ∧ s.kind ≤ 12)) := by
 unfold impl_IsTest spec_IsTest
 rw [within_eq, l1In_eq]
 exact ⟨rfl, rfl⟩
structure Both (vars : List ByteArray) (s : TStmt) (h : THeap) (r : THeap × Int) : Prop where
 spec : spec_Exec vars s h = some r
 impl : impl_Exec vars s h = some r
 tiny : r.1.vars.length ≤ 4 ∧ r.1.next.length ≤ 7
theorem fin_tiny {x : THeap} (h : x.vars.length ≤ 4 ∧ x.next.length ≤ 7) : (finF x).1.vars.length ≤ 4 ∧ (finF x).1.next.length ≤ 7 := by
 have := canF_len x
 unfold finF
 split
 ·simp
 ·exact ⟨Nat.le_trans this.1 h.1, Nat.le_trans this.2 h.2⟩
theorem len_set {h : THeap} {nv a : Nat} {x : Int} (g : Good nv h) : (h.vars.set a x).length ≤ 4 ∧ h.next.length ≤ 7 := ⟨by have := g.v1; have := g.v2; simp; omega, by have := g.n1; omega⟩
theorem len_setn {h : THeap} {nv a : Nat} {x : Int} (g : Good nv h) : h.vars.length ≤ 4 ∧ (h.next.set a x).length ≤ 7 := ⟨by have := g.v1; have := g.v2; omega, by have := g.n1; simp; omega⟩
def specTail (s : TStmt) (h : THeap) (A B : Int) : Option (THeap × Int) := (spec_l8Do s h A B).bind fun y => cond (neI y.2 0) (some ((⟨[], []⟩ : THeap), y.2)) ((spec_HasLeak y.1).bind fun y_54 => cond y_54 (some ((⟨[], []⟩ : THeap), (4 : Int))) ((spec_CanonHeap y.1).bind fun y_58 => some (y_58, 0)))
theorem specTail_ok {s : TStmt} {h : THeap} {A B : Int} {x : THeap} (hd : spec_l8Do s h A B = some (x, 0)) (o : okH x) : specTail s h A B = some (finF x) := by
 unfold specTail
 rw [hd, Option.bind_some]
 exact spec_fin x o
theorem specTail_err {s : TStmt} {h : THeap} {A B : Int} {x : THeap} {c : Int} (hd : spec_l8Do s h A B = some (x, c)) (hc : c ≠ 0) : specTail s h A B = some (⟨[], []⟩, c) := by
 unfold specTail
 rw [hd, Option.bind_some]
 simp [neI, hc]
def implTail (s : TStmt) (h : THeap) (own va vb : Int) : Option (THeap × Int) := (zam h s own va vb).bind fun x => (impl_HasLeak x).bind fun y_54 => cond y_54 (some ((⟨[], []⟩ : THeap), (4 : Int))) ((impl_CanonHeap x).bind fun y_58 => some (y_58, 0))
theorem implTail_ok {s : TStmt} {h : THeap} {own va vb : Int} {x : THeap} (hd : zam h s own va vb = some x) (o : okH x) : implTail s h own va vb = some (finF x) := by
 unfold implTail
 rw [hd, Option.bind_some]
 exact impl_fin x o
def specMid (k : Int) (a b : ByteArray) (h : THeap) (A B : Int) : Option (THeap × Int) :=
 (spec_l8Null ⟨k, a, b⟩ h A B).bind fun y_64 => cond y_64 (some ((⟨[], []⟩ : THeap), (2 : Int)))
  ((show Option Bool from cond (eqI k 3) (some (eqI (h.next.length : Int) 6)) (some false)).bind fun r_68 => cond r_68 (some ((⟨[], []⟩ : THeap), (6 : Int))) (specTail ⟨k, a, b⟩ h A B))
def implMid (k : Int) (a b : ByteArray) (h : THeap) (own va vb : Int) : Option (THeap × Int) :=
 (impl_needs k va vb).bind fun y_31 => (show Option Bool from cond y_31.2 (some (eqI y_31.1 (-1))) (some false)).bind fun r_59 => cond r_59 (some ((⟨[], []⟩ : THeap), (2 : Int)))
  ((show Option Bool from cond (eqI k 3) (some (eqI (h.next.length : Int) 6)) (some false)).bind fun r_76 => cond r_76 (some ((⟨[], []⟩ : THeap), (6 : Int)))
   ((show Option Bool from cond (eqI k 8) ((impl_Positions h.vars va).bind fun y_109 => cond (ltI 1 (y_109.length : Int)) (some true) ((zak h.next va).bind fun y_113 => some y_113)) (some false)).bind fun r_93 => cond r_93 (some ((⟨[], []⟩ : THeap), (5 : Int)))
    ((show Option Bool from cond (eqI k 7) ((impl_Followed h vb).bind fun y_133 => (zak y_133 va).bind fun y_136 => some y_136) (some false)).bind fun r_117 => cond r_117 (some ((⟨[], []⟩ : THeap), (3 : Int))) (implTail ⟨k, a, b⟩ h own va vb))))
def testB (k va vb : Int) : Bool := if k = 9 then decide (va = -1) else if k = 10 then !decide (va = -1) else if k = 11 then decide (va = vb) else !decide (va = vb)
theorem spec_test (k va vb : Int) : spec_l8Test k va vb = some (testB k va vb) := by
 unfold spec_l8Test testB
 simp only [cond_eq]
 split
 ·rfl
 ·split
  ·rfl
  ·split <;> rfl
theorem impl_test (k va vb : Int) : impl_holds k va vb = some (testB k va vb) := by
 unfold impl_holds testB
 simp only [cond_eq]
 split
 ·rfl
 ·split
  ·rfl
  ·split <;> rfl
theorem specMid_go {k : Int} {a b : ByteArray} {h : THeap} {A B : Int} (h3 : eqI k 3 = false) (hn : spec_l8Null ⟨k, a, b⟩ h A B = some false) : specMid k a b h A B = specTail ⟨k, a, b⟩ h A B := by
 unfold specMid
 rw [hn, h3]
 rfl
theorem specMid_nul {k : Int} {a b : ByteArray} {h : THeap} {A B : Int} (hn : spec_l8Null ⟨k, a, b⟩ h A B = some true) : specMid k a b h A B = some (⟨[], []⟩, 2) := by
 unfold specMid
 rw [hn]
 rfl
theorem implMid_nul {k : Int} {a b : ByteArray} {h : THeap} {own va vb v : Int} (hn : impl_needs k va vb = some (v, true)) (hv : v = -1) : implMid k a b h own va vb = some (⟨[], []⟩, 2) := by
 unfold implMid
 rw [hn, hv]
 rfl
theorem need_ok {v : Int} {is : Bool} (hz : is = true → v ≠ -1) : cond is (some (eqI v (-1))) (some false) = some false := by
 cases is
 ·rfl
 ·have := hz rfl
  simp [eqI, this]
theorem implMid_go {k : Int} {a b : ByteArray} {h : THeap} {own va vb v : Int} {is : Bool} (h3 : eqI k 3 = false) (h8 : eqI k 8 = false) (h7 : eqI k 7 = false) (hn : impl_needs k va vb = some (v, is)) (hz : is = true → v ≠ -1) : implMid k a b h own va vb = implTail ⟨k, a, b⟩ h own va vb := by
 have := need_ok hz
 unfold implMid
 simp only [hn, Option.bind_some, h3, h8, h7, cond_false, this]
theorem exec_both (vars : List ByteArray) (s : TStmt) (h : THeap) (hn : smN vars) : ∃ r, Both vars s h r := by
 cases hst : stB vars s with
 | false => exact ⟨(⟨[], []⟩, 7), by unfold spec_Exec; simp [spec_isStmt vars s hn, hst], by unfold impl_Exec; simp [impl_isStmt vars s hn, hst], by simp⟩
 | true =>
 cases hhp : isHeapB (vars.length : Int) h with
 | false => exact ⟨(⟨[], []⟩, 7), by unfold spec_Exec; simp [spec_isStmt vars s hn, hst, spec_isHeap, hhp, notB], by unfold impl_Exec; simp [impl_isStmt vars s hn, hst, impl_isHeap, hhp, notB], by simp⟩
 | true =>
 have g := good_of hhp
 have hv1 := g.v1
 have hv2 := g.v2
 have hn1 := g.n1
 have hnk : 1 ≤ s.kind ∧ s.kind ≤ 12 := by
  unfold stB at hst
  simp only [Bool.and_eq_true, decide_eq_true_eq] at hst
  obtain ⟨_, h0, _⟩ := hst
  unfold nk at h0
  by_cases hc : 1 ≤ s.kind ∧ s.kind ≤ 12
  ·exact hc
  ·rw [if_neg (by omega), if_neg (by omega), if_neg (by omega)] at h0
   omega
 have hia := idxS_in vars s.a
 have hib := idxS_in vars s.b
 have hA : nk s.kind ≥ 1 → 0 ≤ idxS vars s.a := fun hk => by
  unfold stB at hst
  simp only [Bool.and_eq_true] at hst
  have := hst.2.2.1
  rw [if_neg (by omega)] at this
  simpa using this
 have hB : nk s.kind ≥ 2 → 0 ≤ idxS vars s.b := fun hk => by
  unfold stB at hst
  simp only [Bool.and_eq_true] at hst
  have := hst.2.2.2
  rw [if_neg (by omega)] at this
  simpa using this
 obtain ⟨k, a, b⟩ := s
 simp only at hnk hA hB hia hib
 -- what stands at the names
 obtain ⟨ia, ea⟩ : ∃ ia, ia = idxS vars a := ⟨_, rfl⟩
 obtain ⟨ib, eb⟩ : ∃ ib, ib = idxS vars b := ⟨_, rfl⟩
 rw [← ea] at hia hA
 rw [← eb] at hib hB
 have atA : at? h.vars (if ia < 0 then 0 else ia) = some (h.vars.getD (if ia < 0 then 0 else ia).toNat 0) := at_in (by split <;> omega)
 have atB : at? h.vars (if ib < 0 then 0 else ib) = some (h.vars.getD (if ib < 0 then 0 else ib).toNat 0) := at_in (by split <;> omega)
 have S0 : spec_Exec vars ⟨k, a, b⟩ h = ((show Option Bool from cond (decide (9 ≤ k ∧ k ≤ 12)) ((spec_l8Test k (h.vars.getD (if ia < 0 then 0 else ia).toNat 0) (h.vars.getD (if ib < 0 then 0 else ib).toNat 0)).bind fun y => some (notB y)) (some false)).bind fun r_33 =>
  cond r_33 (some ((⟨[], []⟩ : THeap), (1 : Int))) (specMid k a b h (if ia < 0 then 0 else ia) (if ib < 0 then 0 else ib))) := by
  unfold spec_Exec specMid specTail
  simp only [spec_isStmt vars _ hn, hst, spec_isHeap, hhp, notB, Option.bind_some, cond_true, Bool.not_true, cond_false, spec_indexOf vars _ hn.1, ← ea, ← eb, max0, (isTest_eq _).2, atA, atB, spec_copy h g.ok]
 have I0 : impl_Exec vars ⟨k, a, b⟩ h = ((show Option Bool from cond (decide (9 ≤ k ∧ k ≤ 12)) ((impl_holds k (if 0 ≤ ia then h.vars.getD ia.toNat 0 else -1) (if 0 ≤ ib then h.vars.getD ib.toNat 0 else -1)).bind fun y => some (notB y)) (some false)).bind fun r_33 =>
  cond r_33 (some ((⟨[], []⟩ : THeap), (1 : Int))) (implMid k a b h ia (if 0 ≤ ia then h.vars.getD ia.toNat 0 else -1) (if 0 ≤ ib then h.vars.getD ib.toNat 0 else -1))) := by
  unfold impl_Exec implMid implTail
  simp only [impl_isStmt vars _ hn, hst, impl_isHeap, hhp, notB, Option.bind_some, cond_true, Bool.not_true, cond_false, impl_indexOf vars _ hn.1, ← ea, ← eb, impl_at h vars _ hn hv1, (isTest_eq _).1]
  unfold impl_needs
  simp only [cond_eq]
  split
  ·rfl
  ·split
   ·rfl
   ·split
    ·rfl
    ·split <;> rfl
 obtain ⟨A, hAd⟩ : ∃ A, A = (if ia < 0 then 0 else ia) := ⟨_, rfl⟩
 obtain ⟨B, hBd⟩ : ∃ B, B = (if ib < 0 then 0 else ib) := ⟨_, rfl⟩
 obtain ⟨va, hva⟩ : ∃ va, va = (if 0 ≤ ia then h.vars.getD ia.toNat 0 else -1) := ⟨_, rfl⟩
 obtain ⟨vb, hvb⟩ : ∃ vb, vb = (if 0 ≤ ib then h.vars.getD ib.toNat 0 else -1) := ⟨_, rfl⟩
 rw [← hAd] at S0 atA
 rw [← hBd] at S0 atB
 rw [← hva, ← hvb] at I0
 have FA : nk k ≥ 1 → A = ia ∧ 0 ≤ ia ∧ at? h.vars ia = some va ∧ -1 ≤ va ∧ va < (h.next.length : Int) ∧ h.vars.getD A.toNat 0 = va := fun hk => by
  have h0 := hA hk
  rw [if_neg (by omega)] at hAd
  rw [if_pos h0] at hva
  subst hAd
  have := g.cv _ (getD_mem (xs := h.vars) (i := A) (by omega))
  rw [hva]
  exact ⟨rfl, h0, atA, this.1, this.2, rfl⟩
 have FB : nk k ≥ 2 → B = ib ∧ 0 ≤ ib ∧ at? h.vars ib = some vb ∧ -1 ≤ vb ∧ vb < (h.next.length : Int) ∧ h.vars.getD B.toNat 0 = vb := fun hk => by
  have h0 := hB hk
  rw [if_neg (by omega)] at hBd
  rw [if_pos h0] at hvb
  subst hBd
  have := g.cv _ (getD_mem (xs := h.vars) (i := B) (by omega))
  rw [hvb]
  exact ⟨rfl, h0, atB, this.1, this.2, rfl⟩
 have ok := g.ok
 have cl1 : slices_Clone_int h.vars = some h.vars := clone_int _ ok.v
 have cl2 : slices_Clone_int h.next = some h.next := clone_int _ ok.n
 have S1 : decide (9 ≤ k ∧ k ≤ 12) = false → spec_Exec vars ⟨k, a, b⟩ h = specMid k a b h A B := fun hd => by rw [S0, hd]; rfl
 have I1 : decide (9 ≤ k ∧ k ≤ 12) = false → impl_Exec vars ⟨k, a, b⟩ h = implMid k a b h ia va vb := fun hd => by rw [I0, hd]; rfl
 have T1 : decide (9 ≤ k ∧ k ≤ 12) = true → ∀ tb, testB k (h.vars.getD A.toNat 0) (h.vars.getD B.toNat 0) = tb → testB k va vb = tb → eqI k 3 = false → eqI k 8 = false → eqI k 7 = false → spec_l8Null ⟨k, a, b⟩ h A B = some false → impl_needs k va vb = some (0, false) →
  spec_l8Do ⟨k, a, b⟩ h A B = some (h, 0) → zam h ⟨k, a, b⟩ ia va vb = some h → ∃ r, Both vars ⟨k, a, b⟩ h r := fun hd tb t1 t2 h3 h8 h7 n1 n2 d1 d2 => by
  have S : spec_Exec vars ⟨k, a, b⟩ h = cond (notB tb) (some ((⟨[], []⟩ : THeap), (1 : Int))) (specMid k a b h A B) := by rw [S0, hd, spec_test, t1]; rfl
  have I : impl_Exec vars ⟨k, a, b⟩ h = cond (notB tb) (some ((⟨[], []⟩ : THeap), (1 : Int))) (implMid k a b h ia va vb) := by rw [I0, hd, impl_test, t2]; rfl
  cases tb
  ·exact ⟨_, S, I, by simp⟩
  ·exact ⟨finF h, S.trans ((specMid_go h3 n1).trans (specTail_ok d1 ok)), I.trans ((implMid_go h3 h8 h7 n2 (fun e => by cases e)).trans (implTail_ok d2 ok)), fin_tiny ⟨by omega, by omega⟩⟩
 rcases kinds hnk with rfl | rfl | rfl | rfl | rfl | rfl | rfl | rfl | rfl | rfl | rfl | rfl
 ·refine ⟨finF h, (S1 rfl).trans ((specMid_go rfl rfl).trans (specTail_ok rfl ok)), (I1 rfl).trans ((implMid_go rfl rfl rfl rfl (fun e => by cases e)).trans (implTail_ok ?_ ok)), fin_tiny ⟨by omega, by omega⟩⟩
  unfold zam
  rw [cl1, cl2]
  rfl
 ·obtain ⟨rfl, h0, at1, w1, w2, _⟩ := FA (by decide)
  refine ⟨finF ⟨h.vars.set A.toNat (-1), h.next⟩, (S1 rfl).trans ((specMid_go rfl rfl).trans (specTail_ok ?_ (ok_set ok))), (I1 rfl).trans ((implMid_go rfl rfl rfl rfl (fun e => by cases e)).trans (implTail_ok ?_ (ok_set ok))), fin_tiny (len_set g)⟩
  ·show (at? h.vars A).bind _ = _
   rw [at1]; rfl
  ·unfold zam
   rw [cl1, cl2]
   show (at? h.vars A).bind _ = _
   rw [at1]; rfl
 ·obtain ⟨rfl, h0, at1, w1, w2, _⟩ := FA (by decide)
  by_cases hf : (h.next.length : Int) = 6
  ·refine ⟨(⟨[], []⟩, 6), (S1 rfl).trans ?_, (I1 rfl).trans ?_, by simp⟩
   ·show cond (eqI (h.next.length : Int) 6) _ _ = _
    simp [eqI, hf]
   ·show cond (eqI (h.next.length : Int) 6) _ _ = _
    simp [eqI, hf]
  ·have hr : room (h.next.length + [(-1 : Int)].length) 8 = some () := room_small (by simp; omega) (by omega)
   have ok3 : okH ⟨h.vars.set A.toNat (h.next.length : Int), h.next ++ [-1]⟩ := ⟨by have := ok.1; simpa using this, by simp; omega⟩
   refine ⟨finF ⟨h.vars.set A.toNat (h.next.length : Int), h.next ++ [-1]⟩, (S1 rfl).trans (Eq.trans (?_ : _ = specTail ⟨3, a, b⟩ h A B) (specTail_ok ?_ ok3)), (I1 rfl).trans (Eq.trans (?_ : _ = implTail ⟨3, a, b⟩ h A va vb) (implTail_ok ?_ ok3)), fin_tiny ⟨by simp; omega, by simp; omega⟩⟩
   ·show cond (eqI (h.next.length : Int) 6) _ _ = _
    simp [eqI, hf]
   ·show (at? h.vars A).bind _ = _
    rw [at1, Option.bind_some, hr]; rfl
   ·show cond (eqI (h.next.length : Int) 6) _ _ = _
    simp only [eqI, hf, decide_false, cond_false]
    rfl
   ·unfold zam
    rw [cl1, cl2]
    show (at? h.vars A).bind _ = _
    rw [at1, Option.bind_some, hr]; rfl
 ·obtain ⟨rfl, h0, at1, w1, w2, _⟩ := FA (by decide)
  obtain ⟨rfl, h0', at1', w1', w2', _⟩ := FB (by decide)
  refine ⟨finF ⟨h.vars.set A.toNat vb, h.next⟩, (S1 rfl).trans ((specMid_go rfl rfl).trans (specTail_ok ?_ (ok_set ok))), (I1 rfl).trans ((implMid_go rfl rfl rfl rfl (fun e => by cases e)).trans (implTail_ok ?_ (ok_set ok))), fin_tiny (len_set g)⟩
  ·show (at? h.vars B).bind _ = _
   rw [at1', Option.bind_some, at1]; rfl
  ·unfold zam
   rw [cl1, cl2]
   show (at? h.vars A).bind _ = _
   rw [at1]; rfl
 ·obtain ⟨rfl, h0, at1, w1, w2, _⟩ := FA (by decide)
  obtain ⟨rfl, h0', at1', w1', w2', _⟩ := FB (by decide)
  by_cases hz : vb = -1
  ·refine ⟨(⟨[], []⟩, 2), (S1 rfl).trans (specMid_nul ?_), (I1 rfl).trans (implMid_nul rfl hz), by simp⟩
   show (at? h.vars B).bind _ = _
   rw [at1']; simp [eqI, hz]
  ·have at2 : at? h.next vb = some (h.next.getD vb.toNat 0) := at_in (by omega)
   refine ⟨finF ⟨h.vars.set A.toNat (h.next.getD vb.toNat 0), h.next⟩, (S1 rfl).trans ((specMid_go rfl ?_).trans (specTail_ok ?_ (ok_set ok))), (I1 rfl).trans ((implMid_go rfl rfl rfl rfl (fun _ => hz)).trans (implTail_ok ?_ (ok_set ok))), fin_tiny (len_set g)⟩
   ·show (at? h.vars B).bind _ = _
    rw [at1']; simp [eqI, hz]
   ·show (at? h.vars B).bind _ = _
    rw [at1', Option.bind_some, at2, Option.bind_some, at1]; rfl
   ·unfold zam
    rw [cl1, cl2]
    show (at? h.next vb).bind _ = _
    rw [at2, Option.bind_some, at1]; rfl
 ·obtain ⟨rfl, h0, at1, w1, w2, _⟩ := FA (by decide)
  by_cases hz : va = -1
  ·refine ⟨(⟨[], []⟩, 2), (S1 rfl).trans (specMid_nul ?_), (I1 rfl).trans (implMid_nul rfl hz), by simp⟩
   show (at? h.vars A).bind _ = _
   rw [at1]; simp [eqI, hz]
  ·have at2 : at? h.next va = some (h.next.getD va.toNat 0) := at_in (by omega)
   refine ⟨finF ⟨h.vars, h.next.set va.toNat (-1)⟩, (S1 rfl).trans ((specMid_go rfl ?_).trans (specTail_ok ?_ (ok_setn ok))), (I1 rfl).trans ((implMid_go rfl rfl rfl rfl (fun _ => hz)).trans (implTail_ok ?_ (ok_setn ok))), fin_tiny (len_setn g)⟩
   ·show (at? h.vars A).bind _ = _
    rw [at1]; simp [eqI, hz]
   ·show (at? h.vars A).bind _ = _
    rw [at1, Option.bind_some, at2]; rfl
   ·unfold zam
    rw [cl1, cl2]
    show (at? h.next va).bind _ = _
    rw [at2]; rfl
 ·obtain ⟨rfl, h0, at1, w1, w2, _⟩ := FA (by decide)
  obtain ⟨rfl, h0', at1', w1', w2', _⟩ := FB (by decide)
  by_cases hz : va = -1
  ·refine ⟨(⟨[], []⟩, 2), (S1 rfl).trans (specMid_nul ?_), (I1 rfl).trans (implMid_nul rfl hz), by simp⟩
   show (at? h.vars A).bind _ = _
   rw [at1]; simp [eqI, hz]
  ·have at2 : at? h.next va = some (h.next.getD va.toNat 0) := at_in (by omega)
   have sn : spec_l8Null ⟨7, a, b⟩ h A B = some false := by
    show (at? h.vars A).bind _ = _
    rw [at1]; simp [eqI, hz]
   have hfol : spec_l7Has (folL h.next vb) va = some (decide (va ∈ folL h.next vb)) := l7Has _ _ (small_fol ok.n vb)
   have hcon : zak (folL h.next vb) va = some (decide (va ∈ folL h.next vb)) := contains_int _ _ (small_fol ok.n vb)
   have im : implMid 7 a b h A va vb = cond (decide (va ∈ folL h.next vb)) (some ((⟨[], []⟩ : THeap), (3 : Int))) (implTail ⟨7, a, b⟩ h A va vb) := by
    unfold implMid
    rw [show impl_needs 7 va vb = some (va, true) from rfl]
    simp only [Option.bind_some, cond_true, cond_false, show eqI (7 : Int) 3 = false from rfl, show eqI (7 : Int) 8 = false from rfl, show eqI (7 : Int) 7 = true from rfl, show eqI va (-1) = false from by simp [eqI, hz], impl_followed h ok.n vb, hcon]
   by_cases hcy : va ∈ folL h.next vb
   ·refine ⟨(⟨[], []⟩, 3), (S1 rfl).trans ((specMid_go rfl sn).trans (specTail_err (x := ⟨[], []⟩) ?_ (by decide))), (I1 rfl).trans (im.trans (by simp [hcy])), by simp⟩
    show (at? h.vars B).bind _ = _
    rw [at1', Option.bind_some, spec_followed h ok.n vb, Option.bind_some, at1, Option.bind_some, hfol]
    simp [hcy]
   ·refine ⟨finF ⟨h.vars, h.next.set va.toNat vb⟩, (S1 rfl).trans ((specMid_go rfl sn).trans (specTail_ok ?_ (ok_setn ok))), (I1 rfl).trans (im.trans (Eq.trans (b := implTail ⟨7, a, b⟩ h A va vb) (by simp [hcy]) (implTail_ok ?_ (ok_setn ok)))), fin_tiny (len_setn g)⟩
    ·show (at? h.vars B).bind _ = _
     rw [at1', Option.bind_some, spec_followed h ok.n vb, Option.bind_some, at1, Option.bind_some, hfol]
     simp [hcy, at2]
    ·unfold zam
     rw [cl1, cl2]
     show (at? h.next va).bind _ = _
     rw [at2]; rfl
 ·obtain ⟨rfl, h0, at1, w1, w2, _⟩ := FA (by decide)
  by_cases hz : va = -1
  ·refine ⟨(⟨[], []⟩, 2), (S1 rfl).trans (specMid_nul ?_), (I1 rfl).trans (implMid_nul rfl hz), by simp⟩
   show (at? h.vars A).bind _ = _
   rw [at1]; simp [eqI, hz]
  ·have sn : spec_l8Null ⟨8, a, b⟩ h A B = some false := by
    show (at? h.vars A).bind _ = _
    rw [at1]; simp [eqI, hz]
   have hp := positions h.vars va ok.v
   have hhas : spec_l7Has h.next va = some (decide (va ∈ h.next)) := l7Has _ _ ok.n
   have hcon : zak h.next va = some (decide (va ∈ h.next)) := contains_int _ _ ok.n
   have im : implMid 8 a b h A va vb = cond (decide (1 < ((posF va 0 h.vars).length : Int)) || decide (va ∈ h.next)) (some ((⟨[], []⟩ : THeap), (5 : Int))) (implTail ⟨8, a, b⟩ h A va vb) := by
    unfold implMid
    rw [show impl_needs 8 va vb = some (va, true) from rfl]
    simp only [Option.bind_some, cond_true, cond_false, show eqI (8 : Int) 3 = false from rfl, show eqI (8 : Int) 7 = false from rfl, show eqI (8 : Int) 8 = true from rfl, show eqI va (-1) = false from by simp [eqI, hz], positions_eq, hp, hcon, ltI]
    cases decide (1 < ((posF va 0 h.vars).length : Int)) <;> cases decide (va ∈ h.next) <;> rfl
   have sd : spec_l8Do ⟨8, a, b⟩ h A B = (spec_l8Free h A).bind fun y => some (y.1, y.2) := rfl
   have sf : spec_l8Free h A = cond (decide (1 < ((posF va 0 h.vars).length : Int)) || decide (va ∈ h.next)) (some (⟨[], []⟩, 5)) ((spec_l8Without ⟨h.vars.set A.toNat (-1), h.next⟩ va).bind fun y_20 => some (y_20, 0)) := by
    unfold spec_l8Free
    rw [at1, Option.bind_some, hp, Option.bind_some, hhas]
    simp only [ltI, Option.bind_some]
    cases decide (1 < ((posF va 0 h.vars).length : Int)) <;> cases decide (va ∈ h.next) <;> rfl
   cases hdang : (decide (1 < ((posF va 0 h.vars).length : Int)) || decide (va ∈ h.next)) with
   | true =>
    rw [hdang] at im sf
    exact ⟨(⟨[], []⟩, 5), (S1 rfl).trans ((specMid_go rfl sn).trans (specTail_err (x := ⟨[], []⟩) (by rw [sd, sf]; rfl) (by decide))), (I1 rfl).trans im, by simp⟩
   | false =>
    rw [hdang] at im sf
    have hcv : ∀ x ∈ h.vars.set A.toNat (-1), -1 ≤ x ∧ x ≤ 1000 := fun x hx => by
     rcases List.mem_or_eq_of_mem_set hx with h | rfl
     ·have := g.cv x h; omega
     ·omega
    have hw := spec_without ⟨h.vars.set A.toNat (-1), h.next⟩ va (ok_set ok) (by simp; omega) hcv (fun x hx => by have := g.cn x hx; omega)
    have ok8 : okH ⟨(h.vars.set A.toNat (-1)).map (decI va), ((h.next.take va.toNat) ++ h.next.drop (va.toNat + 1)).map (decI va)⟩ := ⟨by have := ok.1; simpa using this, by simp; omega⟩
    refine ⟨finF _, (S1 rfl).trans ((specMid_go rfl sn).trans (specTail_ok (by rw [sd, sf]; show ((spec_l8Without _ _).bind _).bind _ = _; rw [hw]; rfl) ok8)), (I1 rfl).trans (im.trans (implTail_ok ?_ ok8)), fin_tiny ⟨by simp; omega, by simp; omega⟩⟩
    unfold zam
    rw [cl1, cl2]
    show (at? h.vars A).bind _ = _
    rw [at1, Option.bind_some]
    unfold impl_Heap_without withoutF
    rw [if_pos ⟨by simp; rintro e; rw [e] at hv1; simp at hv1; omega, by simp; omega, by simp; omega, by omega, by simpa using w2⟩]
    rfl
 ·obtain ⟨rfl, h0, at1, w1, w2, e1⟩ := FA (by decide)
  exact T1 rfl (testB 9 va vb) (by rw [e1]; rfl) rfl rfl rfl rfl rfl rfl rfl (by unfold zam; rw [cl1, cl2]; rfl)
 ·obtain ⟨rfl, h0, at1, w1, w2, e1⟩ := FA (by decide)
  exact T1 rfl (testB 10 va vb) (by rw [e1]; rfl) rfl rfl rfl rfl rfl rfl rfl (by unfold zam; rw [cl1, cl2]; rfl)
 ·obtain ⟨rfl, h0, at1, w1, w2, e1⟩ := FA (by decide)
  obtain ⟨rfl, h0', at1', w1', w2', e2⟩ := FB (by decide)
  exact T1 rfl (testB 11 va vb) (by rw [e1, e2]) rfl rfl rfl rfl rfl rfl rfl (by unfold zam; rw [cl1, cl2]; rfl)
 ·obtain ⟨rfl, h0, at1, w1, w2, e1⟩ := FA (by decide)
  obtain ⟨rfl, h0', at1', w1', w2', e2⟩ := FB (by decide)
  exact T1 rfl (testB 12 va vb) (by rw [e1, e2]) rfl rfl rfl rfl rfl rfl rfl (by unfold zam; rw [cl1, cl2]; rfl)
end Go.Ev


namespace Go.Ev
open Wf (wf)
open Sm (sm lg)
def tinyS (s : TState) : Prop := s.heap.vars.length ≤ 4 ∧ s.heap.next.length ≤ 7
theorem smP_of {p : TProgram} (h : sm p) : smP p := by
 refine ⟨⟨?_, fun s hs => ?_⟩, ?_⟩
 ·have := h.1.1; unfold small; omega
 ·have := h.1.2 s hs
  have : s.size ≤ 1048576 := this
  unfold small; omega
 ·have := h.2.1; unfold small; omega
end Go.Ev


namespace Go.Ev
open Wf (wf)
open Sm (sm lg)
def Tot2 {α β : Type} (o : Option α) (o' : Option β) (Q : α → β → Prop) : Prop := ∃ a b, o = some a ∧ o' = some b ∧ Q a b
theorem Tot2.ret {α β : Type} {a : α} {b : β} {Q : α → β → Prop} (h : Q a b) : Tot2 (some a) (some b) Q := ⟨a, b, rfl, rfl, h⟩
theorem Tot2.loop {σ τ ρ ρ' : Type} {st1 : σ → Option (σ ⊕ ρ)} {st2 : τ → Option (τ ⊕ ρ')} {Q : ρ → ρ' → Prop} (I : Nat → σ → τ → Prop) (n : Nat) {s : σ} {t : τ} (h0 : I 0 s t)
 (h : ∀ i s t, I i s t → i ≤ n → Tot2 (st1 s) (st2 t) (fun o o' => (∃ s' t', o = .inl s' ∧ o' = .inl t' ∧ i < n ∧ I (i + 1) s' t') ∨ ∃ r r', o = .inr r ∧ o' = .inr r' ∧ Q r r')) : Tot2 (iter st1 s) (iter st2 t) Q := by
 have key : ∀ (k i : Nat) (s : σ) (t : τ), I i s t → i + k = n → Tot2 (iter st1 s) (iter st2 t) Q := by
  intro k
  induction k with
  | zero =>
   intro i s t hI hk
   obtain ⟨o, o', ho, ho', hq⟩ := h i s t hI (by omega)
   rcases hq with ⟨s', t', _, _, hlt, _⟩ | ⟨r, r', rfl, rfl, hq⟩
   ·omega
   ·exact ⟨r, r', iter_inr ho, iter_inr ho', hq⟩
  | succ k ih =>
   intro i s t hI hk
   obtain ⟨o, o', ho, ho', hq⟩ := h i s t hI (by omega)
   rcases hq with ⟨s', t', rfl, rfl, hlt, hI'⟩ | ⟨r, r', rfl, rfl, hq⟩
   ·rw [iter_inl ho, iter_inl ho']
    exact ih (i + 1) s' t' hI' (by omega)
   ·exact ⟨r, r', iter_inr ho, iter_inr ho', hq⟩
 exact key n 0 s t h0 (by omega)

theorem same_ints {a b : List Int} (h : a.length ≤ 9223372036854775806) : spec_l7Same a b = some (decide (a = b)) := by
 refine eqRow h (fun i x y hi hx hy => ?_) ?_ (by unfold spec_l7Same; rfl)
 ·simp only [zao, cond_ne, at_nat, hx, hy, Option.bind_some, Int.ofNat_lt, hi, if_true]
  by_cases he : x = y <;> simp [he]
 ·simp [zao]
theorem equal_ints {a b : List Int} (h : a.length ≤ 9223372036854775806) : slices_Equal_int a b = some (decide (a = b)) := by
 refine eqRow h (fun i x y hi hx hy => ?_) ?_ (by unfold slices_Equal_int; rfl)
 ·simp only [zao, cond_ne, at_nat, hx, hy, Option.bind_some, Int.ofNat_lt, hi, if_true]
  by_cases he : x = y <;> simp [he]
 ·simp [zao]
theorem spec_eqState {a b : TState} (h : tinyS a) : spec_EqualState a b = some (decide (a = b)) := by
 unfold spec_EqualState spec_EqualHeap
 have h1 := h.1
 have h2 := h.2
 rw [same_ints (by omega), same_ints (by omega)]
 rcases a with ⟨a0, a1, a2⟩
 rcases b with ⟨b0, b1, b2⟩
 simp only [Option.bind_some, cond_dec, cond_eq, TState.mk.injEq, THeap.mk.injEq]
 by_cases h0 : a0 = b0 <;> by_cases h1 : a1 = b1 <;> by_cases h2 : a2 = b2 <;> simp [h0, h1, h2]
theorem impl_eqState {a b : TState} (h : tinyS a) : impl_EqualState a b = some (decide (a = b)) := by
 unfold impl_EqualState impl_EqualHeap
 have h1 := h.1
 have h2 := h.2
 rw [equal_ints (by omega), equal_ints (by omega)]
 rcases a with ⟨a0, a1, a2⟩
 rcases b with ⟨b0, b1, b2⟩
 simp only [Option.bind_some, cond_dec, cond_eq, TState.mk.injEq, THeap.mk.injEq]
 by_cases h0 : a0 = b0 <;> by_cases h1 : a1 = b1 <;> by_cases h2 : a2 = b2 <;> simp [h0, h1, h2]

def putS (l : List TState) (s : TState) : List TState := if s ∈ l then l else l ++ [s]
def putM (l : List TMetState) (m : TMetState) : List TMetState := if m.state ∈ l.map (·.state) then l else l ++ [m]
theorem putM_map (l : List TMetState) (m : TMetState) : (putM l m).map (·.state) = putS (l.map (·.state)) m.state := by
 unfold putM putS
 split <;> simp
theorem putM_len (l : List TMetState) (m : TMetState) : l.length ≤ (putM l m).length ∧ (putM l m).length ≤ l.length + 1 := by
 unfold putM
 split <;> simp
theorem putM_all {P : TMetState → Prop} {l : List TMetState} {m : TMetState} (h : ∀ x ∈ l, P x) (hm : P m) : ∀ x ∈ putM l m, P x := by
 unfold putM
 split
 ·exact h
 ·intro x hx
  rcases List.mem_append.1 hx with hx | hx
  ·exact h x hx
  ·rw [List.mem_singleton.1 hx]; exact hm
theorem anyE {α ρ : Type} (p : α → Bool) (rf rt : ρ) : ∀ (xs : List α) (i : Nat), foldE (β := Unit) (fun _ _ x => if p x then some (.inr rf) else some (.inl ())) (fun _ => some rt) () i xs = some (if xs.any p then rf else rt)
 | [], i => by simp [foldE]
 | x :: xs, i => by
  rw [foldE]
  cases hp : p x with
  | true => simp [hp]
  | false => simp only [hp, Bool.false_eq_true, if_false]; rw [anyE p rf rt xs (i + 1)]; simp [hp]
theorem tiny_ok {s : TState} (h : tinyS s) : okH s.heap := ⟨by have := h.1; omega, by have := h.2; omega⟩
theorem spec_put {l : List TState} {s : TState} (hl : l.length ≤ 2000000) (ht : ∀ x ∈ l, tinyS x) (hs : tinyS s) : spec_l9Put l s = some (putS l s) := by
 unfold spec_l9Put
 rw [iter_list l (fun (_ : Unit) i => i) (fun _ i x => if decide (x = s) then some (.inr (.inl l)) else some (.inl ())) (fun _ => some (.inr ())) (fun b i x hx => ?_) (fun b => ?_) (), anyE (fun x => decide (x = s))]
 ·have hmem : (l.any fun x => decide (x = s)) = decide (s ∈ l) := by
   rw [Bool.eq_iff_iff, List.any_eq_true, decide_eq_true_eq]
   constructor
   ·rintro ⟨x, hx, he⟩
    rw [decide_eq_true_eq] at he
    rw [← he]; exact hx
   ·exact fun h => ⟨s, h, by simp⟩
  rw [hmem]
  unfold putS
  by_cases hm : s ∈ l
  ·simp [hm]
  ·simp only [hm, decide_false, Bool.false_eq_true, if_false, Option.bind_some, Sum.elim_inr]
   rw [spec_copy s.heap (tiny_ok hs)]
   simp only [Option.bind_some]
   rw [room_small (by simp; omega) (by omega)]
   rfl
 ·have hlt := (List.getElem?_eq_some_iff.1 hx).1
  simp only [at_nat, hx, Option.bind_some, zao, spec_eqState (ht x (List.mem_of_getElem? hx)), cond_dec]
  rw [if_pos (by omega), addI_eq (by omega) (by omega)]
  by_cases he : x = s <;> simp [he]
 ·simp [zao]
theorem impl_put {l : List TMetState} {s : TState} {f e : Int} (hl : l.length ≤ 2000000) (ht : ∀ x ∈ l, tinyS x.state) : impl_explore_2 s f e l = some (putM l ⟨s, f, e⟩) := by
 unfold impl_explore_2 slices_ContainsFunc_metState slices_IndexFunc_metState
 rw [indexF l (fun x0 => impl_explore_2_1 x0 s) (fun x => decide (x.state = s)) (fun x hx => by unfold impl_explore_2_1; rw [impl_eqState (ht x hx)]; rfl) (by unfold small; omega)]
 have hc := containsF_of l (fun x : TMetState => decide (x.state = s))
 have hm : (l.any fun x => decide (x.state = s)) = decide (s ∈ l.map (·.state)) := by
  rw [Bool.eq_iff_iff, List.any_eq_true, decide_eq_true_eq, List.mem_map]
  constructor
  ·rintro ⟨x, hx, he⟩
   exact ⟨x, hx, by simpa using he⟩
  ·rintro ⟨x, hx, he⟩
   exact ⟨x, hx, by simpa using he⟩
 rw [hm] at hc
 have key : ∀ z : Int, leI 0 z = decide (s ∈ l.map (·.state)) → ((cond (leI 0 z) (some l) ((room (l.length + [(⟨s, f, e⟩ : TMetState)].length) 72).bind fun _ => some (l ++ [(⟨s, f, e⟩ : TMetState)]))) : Option (List TMetState)) = some (putM l ⟨s, f, e⟩) := fun z hz => by
  rw [hz, cond_dec, room_small (by simp; omega) (by omega)]
  unfold putM
  by_cases hq : s ∈ l.map (·.state)
  ·rw [if_pos hq, if_pos hq]
  ·rw [if_neg hq, if_neg hq]; rfl
 generalize l.findIdx? (fun x : TMetState => decide (x.state = s)) = o at hc ⊢
 cases o with
 | none => exact key _ hc
 | some j => exact key _ hc
theorem edges_same : impl_EdgesFrom = spec_EdgesFrom := rfl
theorem edges_ok (p : TProgram) (hp : p.edges.length ≤ 100) (pt : Int) : ∃ r, spec_EdgesFrom p pt = some r ∧ r.length ≤ p.edges.length ∧ ∀ e ∈ r, 0 ≤ e ∧ e < (p.edges.length : Int) := by
 unfold spec_EdgesFrom
 refine Tot.bind (P := fun r : List Int => r.length ≤ p.edges.length ∧ ∀ e ∈ r, 0 ≤ e ∧ e < (p.edges.length : Int)) ?_ fun r hr => Tot.ret hr
 refine Tot.loop (fun i (s : List Int × Int) => s.2 = (i : Int) ∧ s.1.length ≤ i ∧ ∀ e ∈ s.1, 0 ≤ e ∧ e < (p.edges.length : Int)) p.edges.length ⟨rfl, by simp, by simp⟩ fun i s hI hi => ?_
 obtain ⟨l, j⟩ := s
 obtain ⟨h1, h2, h3⟩ := hI
 simp only at h1 h2 h3
 subst h1
 rw [zao]
 by_cases hlt : (i : Int) < (p.edges.length : Int)
 ·rw [if_pos hlt]
  have hx : at? p.edges (i : Int) = some p.edges[i] := by rw [at_nat]; exact List.getElem?_eq_getElem (by omega)
  simp only [hx, Option.bind_some, cond_eq]
  rw [addI_eq (by omega) (by omega)]
  split
  ·rw [room_small (by simp; omega) (by omega)]
   refine Tot.ret ⟨by omega, rfl, by simp only [List.length_append, List.length_singleton]; omega, fun e he => ?_⟩
   rcases List.mem_append.1 he with he | he
   ·exact h3 e he
   ·rw [List.mem_singleton.1 he]; omega
  ·exact Tot.ret ⟨by omega, rfl, by show l.length ≤ i + 1; omega, h3⟩
 ·rw [if_neg hlt]
  exact Tot.ret ⟨by show l.length ≤ _; omega, h3⟩
end Go.Ev


namespace Go.Ev
open Wf (wf)
open Sm (sm lg)
theorem pr_edges {p : TProgram} (h : prB p = true) : p.edges.length ≤ 24 := by
 unfold prB at h
 simp only [Bool.and_eq_true, decide_eq_true_eq] at h
 omega
theorem tiny_start {p : TProgram} {h : THeap} (hh : isHeapB (p.vars.length : Int) h = true) : tinyS ⟨0, h⟩ := by
 have g := good_of hh
 have h1 := g.v1
 have h2 := g.v2
 have h3 := g.n1
 exact ⟨by show h.vars.length ≤ 4; omega, by show h.next.length ≤ 7; omega⟩
structure Sims (l : List TState) (m : List TMetState) (n : Nat) : Prop where
 eq : l = m.map (·.state)
 len : m.length ≤ n
 tiny : ∀ x ∈ m, tinyS x.state
theorem Sims.lt {l : List TState} {m : List TMetState} {n : Nat} (h : Sims l m n) : ∀ x ∈ l, tinyS x := fun x hx => by
 rw [h.eq, List.mem_map] at hx
 obtain ⟨y, hy, rfl⟩ := hx
 exact h.tiny y hy
theorem Sims.ll {l : List TState} {m : List TMetState} {n : Nat} (h : Sims l m n) : l.length = m.length := by rw [h.eq, List.length_map]
theorem Sims.put {l : List TState} {m : List TMetState} {n : Nat} (h : Sims l m n) {s : TState} (hs : tinyS s) (f e : Int) : Sims (putS l s) (putM m ⟨s, f, e⟩) (n + 1) :=
 ⟨by rw [putM_map, h.eq], by have := (putM_len m ⟨s, f, e⟩).2; have := h.len; omega, putM_all h.tiny hs⟩
theorem Sims.mono {l : List TState} {m : List TMetState} {n k : Nat} (h : Sims l m n) (hk : n ≤ k) : Sims l m k := ⟨h.eq, Nat.le_trans h.len hk, h.tiny⟩

theorem start_both (p : TProgram) (start : List THeap) (hs : start.length ≤ 1048576) (hg : ∀ h ∈ start, isHeapB (p.vars.length : Int) h = true) :
 Tot2 (iter (ρ := (Unit) ⊕ ((List TState))) (fun s_5 : (List TState) × Int =>
  cond (ltI s_5.2 (start.length : Int))
   ((at? start s_5.2).bind fun e_17 =>
    (spec_IsHeap (p.vars.length : Int) e_17).bind fun y_22 =>
     cond y_22
      ((at? start s_5.2).bind fun _ =>
       (spec_l9Put s_5.1 (⟨0, e_17⟩ : TState)).bind fun y_33 =>
        some (.inl (y_33, addI s_5.2 1)))
      (some (.inr (.inl ()))))
   (some (.inr (.inr s_5.1)))) ([], 0))
  (iter (ρ := (List TMetState)) (fun s_8 : Int × (List TMetState) =>
   cond (ltI s_8.1 (start.length : Int))
    ((at? start s_8.1).bind fun e_24 =>
     (impl_Heap_own e_24).bind fun y_30 =>
      (impl_explore_2 (⟨0, y_30⟩ : TState) (-1) (-1) s_8.2).bind fun y_35 =>
       some (.inl (addI s_8.1 1, y_35)))
    (some (.inr s_8.2))) (0, [])) (fun r r' => ∃ l, r = .inr l ∧ Sims l r' 1048576) := by
 refine Tot2.loop (fun i (s : (List TState) × Int) (t : Int × (List TMetState)) => s.2 = (i : Int) ∧ t.1 = (i : Int) ∧ Sims s.1 t.2 i) start.length ⟨rfl, rfl, ⟨rfl, Nat.zero_le _, by simp⟩⟩ fun i s t hI hi => ?_
 obtain ⟨l, j⟩ := s
 obtain ⟨j', m⟩ := t
 obtain ⟨h1, h2, h3⟩ := hI
 simp only at h1 h2 h3
 subst h1
 subst h2
 simp only [zao]
 by_cases hlt : (i : Int) < (start.length : Int)
 ·rw [if_pos hlt, if_pos hlt]
  have hi2 : i < start.length := by omega
  have hx : at? start (i : Int) = some start[i] := by rw [at_nat]; exact List.getElem?_eq_getElem hi2
  have hq := hg _ (List.getElem_mem hi2)
  have g := good_of hq
  have h4 := h3.len
  have h5 := h3.ll
  have ht := tiny_start hq
  simp only [hx, Option.bind_some, spec_isHeap, hq, cond_true, impl_own _ g.ok.v g.ok.n, spec_put (l := l) (by omega) h3.lt ht, impl_put (l := m) (by omega) h3.tiny]
  rw [addI_eq (by omega) (by omega)]
  exact Tot2.ret (.inl ⟨_, _, rfl, rfl, hi2, rfl, rfl, h3.put ht _ _⟩)
 ·rw [if_neg hlt, if_neg hlt]
  exact Tot2.ret (.inr ⟨_, _, rfl, rfl, l, rfl, h3.mono (by omega)⟩)
theorem start_bad (p : TProgram) (start : List THeap) (hs : start.length ≤ 1048576) (hg : ¬ ∀ h ∈ start, isHeapB (p.vars.length : Int) h = true) :
 iter (ρ := (Unit) ⊕ ((List TState))) (fun s_5 : (List TState) × Int =>
  cond (ltI s_5.2 (start.length : Int))
   ((at? start s_5.2).bind fun e_17 =>
    (spec_IsHeap (p.vars.length : Int) e_17).bind fun y_22 =>
     cond y_22
      ((at? start s_5.2).bind fun _ =>
       (spec_l9Put s_5.1 (⟨0, e_17⟩ : TState)).bind fun y_33 =>
        some (.inl (y_33, addI s_5.2 1)))
      (some (.inr (.inl ()))))
   (some (.inr (.inr s_5.1)))) ([], 0) = some (.inl ()) := by
 refine Tot.eq (Tot.loop (fun i (s : (List TState) × Int) => s.2 = (i : Int) ∧ s.1.length ≤ i ∧ (∀ x ∈ s.1, tinyS x) ∧ ∀ j h, j < i → start[j]? = some h → isHeapB (p.vars.length : Int) h = true) start.length ⟨rfl, by simp, by simp, fun j h hj => by omega⟩ fun i s hI hi => ?_)
 obtain ⟨l, j⟩ := s
 obtain ⟨h1, h2, h3, h4⟩ := hI
 simp only at h1 h2 h3
 subst h1
 simp only [zao]
 by_cases hlt : (i : Int) < (start.length : Int)
 ·rw [if_pos hlt]
  have hi2 : i < start.length := by omega
  have hx : at? start (i : Int) = some start[i] := by rw [at_nat]; exact List.getElem?_eq_getElem hi2
  simp only [hx, Option.bind_some, spec_isHeap]
  cases hq : isHeapB (p.vars.length : Int) start[i] with
  | false => exact Tot.ret rfl
  | true =>
   have ht := tiny_start hq
   simp only [cond_true, spec_put (l := l) (by omega) h3 ht, Option.bind_some]
   rw [addI_eq (by omega) (by omega)]
   refine Tot.ret ⟨hi2, rfl, ?_, ?_, fun j h hj hh => ?_⟩
   ·show (putS l _).length ≤ i + 1
    unfold putS
    split
    ·omega
    ·simp; omega
   ·intro x hx
    have hx : x ∈ putS l ⟨0, start[i]⟩ := hx
    unfold putS at hx
    split at hx
    ·exact h3 x hx
    ·rcases List.mem_append.1 hx with hx | hx
     ·exact h3 x hx
     ·rw [List.mem_singleton.1 hx]; exact ht
   ·rcases Nat.lt_or_ge j i with hj2 | hj2
    ·exact h4 j h hj2 hh
    ·have : j = i := by omega
     subst this
     rw [List.getElem?_eq_getElem hi2] at hh
     cases hh
     exact hq
 ·exfalso
  refine hg fun h hh => ?_
  obtain ⟨j, hj, he⟩ := List.mem_iff_getElem.1 hh
  exact h4 j h (by omega) (by rw [List.getElem?_eq_getElem hj, he])

theorem round_both (p : TProgram) (hn : smN p.vars) (k : Nat) (es : List Int) (hes : es.length ≤ 24) (hin : ∀ e ∈ es, 0 ≤ e ∧ e < (p.edges.length : Int)) (l : List TState) (m : List TMetState) (hR : Sims l m 200) (hk : k < m.length) :
 Tot2 (iter (ρ := (List TState)) (fun s_68 : (List TState) × Int =>
           cond (ltI s_68.2 (es.length : Int))
            ((at? es s_68.2).bind fun e_81 =>
             (at? p.edges e_81).bind fun e_86 =>
              (at? s_68.1 (k : Int)).bind fun e_92 =>
               (spec_Exec p.vars e_86.stmt e_92.heap).bind fun y_97 =>
                cond (eqI y_97.2 0)
                 ((spec_l9Put s_68.1 (⟨e_86.to_, y_97.1⟩ : TState)).bind fun y_104 =>
                  some (.inl (y_104, addI s_68.2 1)))
                 (some (.inl (s_68.1, addI s_68.2 1))))
            (some (.inr s_68.1))) (l, 0))
 (iter (ρ := (List TMetState)) (fun s_70 : Int × (List TMetState) =>
           cond (ltI s_70.1 (es.length : Int))
            ((at? es s_70.1).bind fun e_87 =>
             (at? p.edges e_87).bind fun e_92 =>
              (at? s_70.2 (k : Int)).bind fun e_97 =>
               (impl_Exec p.vars e_92.stmt e_97.state.heap).bind fun y_102 =>
                cond (eqI y_102.2 0)
                 ((at? p.edges e_87).bind fun _ =>
                  (impl_explore_2 (⟨e_92.to_, y_102.1⟩ : TState) (k : Int) e_87 s_70.2).bind fun y_114 =>
                   some (.inl (addI s_70.1 1, y_114)))
                 (some (.inl (addI s_70.1 1, s_70.2))))
            (some (.inr s_70.2))) (0, m)) (fun r r' => Sims r r' 1048576) := by
 refine Tot2.loop (fun i (s : (List TState) × Int) (t : Int × (List TMetState)) => s.2 = (i : Int) ∧ t.1 = (i : Int) ∧ Sims s.1 t.2 (200 + i) ∧ k < t.2.length) es.length ⟨rfl, rfl, hR, hk⟩ fun i s t hI hi => ?_
 obtain ⟨l, j⟩ := s
 obtain ⟨j', m⟩ := t
 obtain ⟨h1, h2, h3, hk⟩ := hI
 simp only at h1 h2 h3 hk
 subst h1
 subst h2
 simp only [zao]
 by_cases hlt : (i : Int) < (es.length : Int)
 ·rw [if_pos hlt, if_pos hlt]
  have hi2 : i < es.length := by omega
  have hx : at? es (i : Int) = some es[i] := by rw [at_nat]; exact List.getElem?_eq_getElem hi2
  have he := hin _ (List.getElem_mem hi2)
  have hy : at? p.edges es[i] = some (p.edges.getD es[i].toNat zE) := at_in' he zE
  have h4 := h3.len
  have h5 := h3.ll
  have hz : at? m (k : Int) = some m[k] := by rw [at_nat]; exact List.getElem?_eq_getElem hk
  have hz2 : at? l (k : Int) = some m[k].state := by rw [at_nat, h3.eq, List.getElem?_map, List.getElem?_eq_getElem hk]; rfl
  obtain ⟨r, hr⟩ := exec_both p.vars (p.edges.getD es[i].toNat zE).stmt m[k].state.heap hn
  simp only [hx, hy, hz, hz2, Option.bind_some, hr.spec, hr.impl, cond_eq]
  rw [addI_eq (by omega) (by omega)]
  by_cases hc : r.2 = 0
  ·have ht : tinyS ⟨(p.edges.getD es[i].toNat zE).to_, r.1⟩ := hr.tiny
   rw [if_pos hc, if_pos hc, spec_put (l := l) (by omega) h3.lt ht, impl_put (l := m) (by omega) h3.tiny]
   simp only [Option.bind_some]
   exact Tot2.ret (.inl ⟨_, _, rfl, rfl, hi2, rfl, rfl, h3.put ht _ _, by have := (putM_len m ⟨⟨(p.edges.getD es[i].toNat zE).to_, r.1⟩, (k : Int), es[i]⟩).1; exact Nat.lt_of_lt_of_le hk this⟩)
  ·rw [if_neg hc, if_neg hc]
   exact Tot2.ret (.inl ⟨_, _, rfl, rfl, hi2, rfl, rfl, h3.mono (by omega), hk⟩)
 ·rw [if_neg hlt, if_neg hlt]
  exact Tot2.ret (.inr ⟨_, _, rfl, rfl, h3.mono (by omega)⟩)
theorem explore_both (p : TProgram) (start : List THeap) (hp : smP p) (hs : start.length ≤ 1048576) :
 ∃ r : List TMetState × Bool, impl_explore p start = some r ∧ spec_StatesFrom p start = some (if r.2 then r.1.map (·.state) else [], r.2) ∧ (r.2 = true → r.1.length ≤ 200 ∧ ∀ x ∈ r.1, tinyS x.state) := by
 unfold impl_explore spec_StatesFrom
 rw [spec_isProgram p hp, impl_isProgram p hp]
 cases hpr : prB p with
 | false => exact ⟨_, rfl, rfl, by simp⟩
 | true =>
 have hed := pr_edges hpr
 have hany : slices_ContainsFunc_Heap start (fun x0 => impl_explore_1 x0 p) = some (start.any fun h => !isHeapB (p.vars.length : Int) h) := by
  unfold slices_ContainsFunc_Heap slices_IndexFunc_Heap
  rw [indexF start (fun x0 => impl_explore_1 x0 p) (fun h => !isHeapB (p.vars.length : Int) h) (fun x hx => by unfold impl_explore_1; rw [impl_isHeap]; simp [notB]) (by unfold small; omega), ← containsF_of]
  generalize start.findIdx? _ = o
  cases o <;> rfl
 simp only [Option.bind_some, cond_true, hany]
 by_cases hg : ∀ h ∈ start, isHeapB (p.vars.length : Int) h = true
 ·have hf : (start.any fun h => !isHeapB (p.vars.length : Int) h) = false := by
   rw [List.any_eq_false]
   intro h hh
   simp [hg h hh]
  rw [hf]
  simp only [cond_false]
  obtain ⟨a, m0, e1, e2, l0, rfl, hR⟩ := start_both p start hs hg
  rw [e1, e2]
  simp only [Option.bind_some, Sum.elim_inr]
  have hout : Tot2 (iter (ρ := (List TState)) (fun s_48 : (List TState) × Int =>
   cond (ltI s_48.2 (s_48.1.length : Int))
    (cond (leI (s_48.1.length : Int) 200)
     ((at? s_48.1 s_48.2).bind fun e_60 =>
      (spec_EdgesFrom p e_60.point).bind fun y_65 =>
       (iter (ρ := (List TState)) (fun s_68 : (List TState) × Int =>
        cond (ltI s_68.2 (y_65.length : Int))
         ((at? y_65 s_68.2).bind fun e_81 =>
          (at? p.edges e_81).bind fun e_86 =>
           (at? s_68.1 s_48.2).bind fun e_92 =>
            (spec_Exec p.vars e_86.stmt e_92.heap).bind fun y_97 =>
             cond (eqI y_97.2 0)
              ((spec_l9Put s_68.1 (⟨e_86.to_, y_97.1⟩ : TState)).bind fun y_104 =>
               some (.inl (y_104, addI s_68.2 1)))
              (some (.inl (s_68.1, addI s_68.2 1))))
         (some (.inr s_68.1))) (s_48.1, 0)).bind fun r_107 =>
        some (.inl (r_107, addI s_48.2 1)))
     (some (.inr s_48.1)))
    (some (.inr s_48.1))) (l0, 0))
   (iter (ρ := (List TMetState)) (fun s_47 : Int × (List TMetState) =>
    cond (ltI s_47.1 (s_47.2.length : Int))
     (cond (leI (s_47.2.length : Int) 200)
      ((at? s_47.2 s_47.1).bind fun e_62 =>
       (impl_EdgesFrom p e_62.state.point).bind fun y_67 =>
        (iter (ρ := (List TMetState)) (fun s_70 : Int × (List TMetState) =>
         cond (ltI s_70.1 (y_67.length : Int))
          ((at? y_67 s_70.1).bind fun e_87 =>
           (at? p.edges e_87).bind fun e_92 =>
            (at? s_70.2 s_47.1).bind fun e_97 =>
             (impl_Exec p.vars e_92.stmt e_97.state.heap).bind fun y_102 =>
              cond (eqI y_102.2 0)
               ((at? p.edges e_87).bind fun _ =>
                (impl_explore_2 (⟨e_92.to_, y_102.1⟩ : TState) s_47.1 e_87 s_70.2).bind fun y_114 =>
                 some (.inl (addI s_70.1 1, y_114)))
               (some (.inl (addI s_70.1 1, s_70.2))))
          (some (.inr s_70.2))) (0, s_47.2)).bind fun r_116 =>
         some (.inl (addI s_47.1 1, r_116)))
      (some (.inr s_47.2)))
     (some (.inr s_47.2))) (0, m0)) (fun r r' => Sims r r' 1048576) := by
   refine Tot2.loop (fun i (s : (List TState) × Int) (t : Int × (List TMetState)) => s.2 = (i : Int) ∧ t.1 = (i : Int) ∧ Sims s.1 t.2 1048576) 201 ⟨rfl, rfl, hR⟩ fun i s t hI hi => ?_
   obtain ⟨l, j⟩ := s
   obtain ⟨j', m⟩ := t
   obtain ⟨h1, h2, h3⟩ := hI
   simp only at h1 h2 h3
   subst h1
   subst h2
   have h5 := h3.ll
   simp only [zao, cond_le, h5]
   by_cases hlt : (i : Int) < (m.length : Int)
   ·rw [if_pos hlt, if_pos hlt]
    by_cases hle : (m.length : Int) ≤ 200
    ·rw [if_pos hle, if_pos hle]
     have hk : i < m.length := by omega
     have hz : at? m (i : Int) = some m[i] := by rw [at_nat]; exact List.getElem?_eq_getElem hk
     have hz2 : at? l (i : Int) = some m[i].state := by rw [at_nat, h3.eq, List.getElem?_map, List.getElem?_eq_getElem hk]; rfl
     obtain ⟨es, e3, e4, e5⟩ := edges_ok p (by omega) m[i].state.point
     simp only [hz, hz2, Option.bind_some, edges_same, e3]
     obtain ⟨r, r', e6, e7, hR2⟩ := round_both p hp.1 i es (by omega) e5 l m ⟨h3.eq, by omega, h3.tiny⟩ hk
     simp only [zao] at e6 e7
     rw [e6, e7]
     simp only [Option.bind_some]
     rw [addI_eq (by omega) (by omega)]
     exact Tot2.ret (.inl ⟨_, _, rfl, rfl, by omega, rfl, rfl, hR2⟩)
    ·rw [if_neg hle, if_neg hle]
     exact Tot2.ret (.inr ⟨_, _, rfl, rfl, h3⟩)
   ·rw [if_neg hlt, if_neg hlt]
    exact Tot2.ret (.inr ⟨_, _, rfl, rfl, h3⟩)
  obtain ⟨r, r', e3, e4, hR2⟩ := hout
  rw [e3, e4]
  simp only [Option.bind_some, zao, hR2.ll]
  by_cases hle : (r'.length : Int) ≤ 200
  ·rw [if_neg (by omega)]
   refine ⟨_, rfl, ?_, fun _ => ⟨by show r'.length ≤ 200; omega, hR2.tiny⟩⟩
   simp [leI, hle, hR2.eq]
  ·rw [if_pos (by omega)]
   refine ⟨_, rfl, ?_, fun h => absurd h (by simp [leI, hle])⟩
   simp [leI, hle]
 ·have hf : (start.any fun h => !isHeapB (p.vars.length : Int) h) = true := by
   cases ha : (start.any fun h => !isHeapB (p.vars.length : Int) h) with
   | true => rfl
   | false =>
    rw [List.any_eq_false] at ha
    exact absurd (fun h hh => by have := ha h hh; simpa using this) hg
  rw [hf, start_bad p start hs hg]
  exact ⟨_, rfl, rfl, by simp⟩
theorem states_both (p : TProgram) (start : List THeap) (hp : smP p) (hs : start.length ≤ 1048576) :
 ∃ r : List TState × Bool, spec_StatesFrom p start = some r ∧ impl_StatesFrom p start = some r ∧ r.1.length ≤ 200 ∧ ∀ x ∈ r.1, tinyS x := by
 obtain ⟨⟨ms, ok⟩, e1, e2, e3⟩ := explore_both p start hp hs
 unfold impl_StatesFrom
 rw [e1, e2]
 cases ok with
 | false => exact ⟨_, rfl, rfl, by simp, by simp⟩
 | true =>
  obtain ⟨hl, ht⟩ := e3 rfl
  simp only at hl ht
  simp only [Option.bind_some, cond_true, if_true]
  refine ⟨_, rfl, ?_, by simpa using hl, fun x hx => by obtain ⟨y, hy, rfl⟩ := List.mem_map.1 hx; exact ht y hy⟩
  refine Tot.eq (Tot.bind (P := fun r : List TState × Int => r.1 = ms.map (·.state)) (Tot.loop (fun i (s : (List TState) × Int × Int) => s = ((ms.map (·.state)).take i, (i : Int), (i : Int))) ms.length rfl fun i s hI hi => ?_) fun r hr => Tot.ret (by rw [hr]))
  subst hI
  simp only [zao]
  by_cases hlt : (i : Int) < (ms.length : Int)
  ·have hi2 : i < ms.length := by omega
   have hx : at? ms (i : Int) = some ms[i] := by rw [at_nat]; exact List.getElem?_eq_getElem hi2
   rw [if_pos hlt]
   simp only [hx, Option.bind_some, takeI, if_true]
   rw [room_small (by simp; omega) (by omega), addI_eq (by omega) (by omega)]
   refine Tot.ret ⟨hi2, ?_⟩
   simp only [Prod.mk.injEq]
   refine ⟨?_, rfl, rfl⟩
   rw [take_snoc1 (xs := ms.map (·.state)) (by simpa using hi2)]
   simp
  ·rw [if_neg hlt]
   refine Tot.ret ?_
   show (ms.map (·.state)).take i = _
   rw [List.take_of_length_le (by simp; omega)]
end Go.Ev


namespace Go.Ev
theorem cntE_markStringS_ok (x : ByteArray) (k : Int) (hk : 0 ≤ k) (hb : k + cntE_markStringS x ≤ maxMark) : (mkE_markStringS x k).2 = k + cntE_markStringS x := by
 unfold cntE_markStringS maxMark at *
 unfold mkE_markStringS
 have h0 : addI k 1 = k + 1 := addI_eq (by omega) (by omega)
 simp only
 omega
theorem markStringS_snd (xs : List ByteArray) (k : Int) (hk : 0 ≤ k) (hb : k + cntF_markStringS xs ≤ maxMark) : (mkF_markStringS xs k).2 = k + cntF_markStringS xs := mkRow_snd cntE_markStringS_ok xs k hk hb
theorem cntE_markEdgeS_ok (x : TEdge) (k : Int) (hk : 0 ≤ k) (hb : k + cntE_markEdgeS x ≤ maxMark) : (mkE_markEdgeS x k).2 = k + cntE_markEdgeS x := by
 unfold cntE_markEdgeS maxMark at *
 unfold mkE_markEdgeS
 have h0 : addI k 1 = k + 1 := addI_eq (by omega) (by omega)
 have h1 : addI (addI k 1) 1 = (addI k 1) + 1 := addI_eq (by omega) (by omega)
 have h2 : addI (addI (addI k 1) 1) 1 = (addI (addI k 1) 1) + 1 := addI_eq (by omega) (by omega)
 have h3 : addI (addI (addI (addI k 1) 1) 1) 1 = (addI (addI (addI k 1) 1) 1) + 1 := addI_eq (by omega) (by omega)
 have h4 : addI (addI (addI (addI (addI k 1) 1) 1) 1) 1 = (addI (addI (addI (addI k 1) 1) 1) 1) + 1 := addI_eq (by omega) (by omega)
 simp only
 omega
theorem markEdgeS_snd (xs : List TEdge) (k : Int) (hk : 0 ≤ k) (hb : k + cntF_markEdgeS xs ≤ maxMark) : (mkF_markEdgeS xs k).2 = k + cntF_markEdgeS xs := mkRow_snd cntE_markEdgeS_ok xs k hk hb
theorem markProgram_snd (x : TProgram) (k : Int) (hk : 0 ≤ k) (hb : k + cntF_markProgram x ≤ maxMark) : (mkF_markProgram x k).2 = k + cntF_markProgram x := by
 unfold cntF_markProgram maxMark at *
 unfold mkF_markProgram
 have h0 := markStringS_snd x.vars k (by omega) (by unfold maxMark; omega)
 have h1 := markEdgeS_snd x.edges ((mkF_markStringS x.vars k).2) (by omega) (by unfold maxMark; omega)
 simp only
 omega
theorem cntE_markIntS_ok (x : Int) (k : Int) (hk : 0 ≤ k) (hb : k + cntE_markIntS x ≤ maxMark) : (mkE_markIntS x k).2 = k + cntE_markIntS x := by
 unfold cntE_markIntS maxMark at *
 unfold mkE_markIntS
 have h0 : addI k 1 = k + 1 := addI_eq (by omega) (by omega)
 simp only
 omega
theorem markIntS_snd (xs : List Int) (k : Int) (hk : 0 ≤ k) (hb : k + cntF_markIntS xs ≤ maxMark) : (zag xs k).2 = k + cntF_markIntS xs := mkRow_snd cntE_markIntS_ok xs k hk hb
theorem heldIntS_ok {xs : List Int} {k0 : Int} (hl : Sm.lg xs) (hk : 0 ≤ k0) (hb : k0 + cntF_markIntS xs ≤ maxMark) : laws_heldIntS (zag xs k0).1 k0 = some (zag xs k0).2 := by
 unfold laws_heldIntS
 have hlg : ∀ x ∈ xs, Sm.lg x := hl.2
 rw [held_row (ys := (zag xs k0).1) (E := mkE_markIntS) (cnt := cntE_markIntS) (xs := xs) cntE_markIntS_ok (fun i x k hx0 hi hx hk hb => ?_) (fun k => by simp [zao]) rfl (by have := hl.1; omega) hk hb]
 ·rfl
 ·have e0 : at? (zag xs k0).1 (i : Int) = some (mkE_markIntS x k).1 := by rw [at_nat]; exact hx
  unfold cntE_markIntS maxMark at hb
  have h0 : addI k 1 = k + 1 := addI_eq (by omega) (by omega)
  have hc : ltI (i : Int) ((zag xs k0).1.length : Int) = true := by simpa [ltI] using hi
  simp only [hc, e0, mkE_markIntS, cond_true, cond_false, Option.bind_some, neI, decide_true, Bool.not_true, ]
theorem cntE_markHeapS_ok (x : THeap) (k : Int) (hk : 0 ≤ k) (hb : k + cntE_markHeapS x ≤ maxMark) : (mkE_markHeapS x k).2 = k + cntE_markHeapS x := by
 unfold cntE_markHeapS maxMark at *
 unfold mkE_markHeapS
 have h0 := markIntS_snd x.vars k (by omega) (by unfold maxMark; omega)
 have h1 := markIntS_snd x.next ((zag x.vars k).2) (by omega) (by unfold maxMark; omega)
 simp only
 omega
theorem markHeapS_snd (xs : List THeap) (k : Int) (hk : 0 ≤ k) (hb : k + cntF_markHeapS xs ≤ maxMark) : (mkF_markHeapS xs k).2 = k + cntF_markHeapS xs := mkRow_snd cntE_markHeapS_ok xs k hk hb
theorem cntE_markStateS_ok (x : TState) (k : Int) (hk : 0 ≤ k) (hb : k + cntE_markStateS x ≤ maxMark) : (mkE_markStateS x k).2 = k + cntE_markStateS x := by
 unfold cntE_markStateS maxMark at *
 unfold mkE_markStateS
 have h0 : addI k 1 = k + 1 := addI_eq (by omega) (by omega)
 have h1 := markIntS_snd x.heap.vars (addI k 1) (by omega) (by unfold maxMark; omega)
 have h2 := markIntS_snd x.heap.next ((zag x.heap.vars (addI k 1)).2) (by omega) (by unfold maxMark; omega)
 simp only
 omega
theorem markStateS_snd (xs : List TState) (k : Int) (hk : 0 ≤ k) (hb : k + cntF_markStateS xs ≤ maxMark) : (mkF_markStateS xs k).2 = k + cntF_markStateS xs := mkRow_snd cntE_markStateS_ok xs k hk hb
theorem heldStateS_ok {xs : List TState} {k0 : Int} (hl : Sm.lg xs) (hk : 0 ≤ k0) (hb : k0 + cntF_markStateS xs ≤ maxMark) : laws_heldStateS (mkF_markStateS xs k0).1 k0 = some (mkF_markStateS xs k0).2 := by
 unfold laws_heldStateS
 have hlg : ∀ x ∈ xs, Sm.lg x := hl.2
 rw [held_row (ys := (mkF_markStateS xs k0).1) (E := mkE_markStateS) (cnt := cntE_markStateS) (xs := xs) cntE_markStateS_ok (fun i x k hx0 hi hx hk hb => ?_) (fun k => by simp [zao]) rfl (by have := hl.1; omega) hk hb]
 ·rfl
 ·have e0 : at? (mkF_markStateS xs k0).1 (i : Int) = some (mkE_markStateS x k).1 := by rw [at_nat]; exact hx
  unfold cntE_markStateS maxMark at hb
  have h0 : addI k 1 = k + 1 := addI_eq (by omega) (by omega)
  have h1 := markIntS_snd x.heap.vars (addI k 1) (by omega) (by unfold maxMark; omega)
  have w1 := heldIntS_ok (xs := x.heap.vars) (k0 := addI k 1) (hl.2 x hx0).1 (by omega) (by unfold maxMark; omega)
  have n1 : ltI (zag x.heap.vars (addI k 1)).2 0 = false := by simp only [ltI, decide_eq_false_iff_not]; omega
  have h2 := markIntS_snd x.heap.next ((zag x.heap.vars (addI k 1)).2) (by omega) (by unfold maxMark; omega)
  have w2 := heldIntS_ok (xs := x.heap.next) (k0 := (zag x.heap.vars (addI k 1)).2) (hl.2 x hx0).2 (by omega) (by unfold maxMark; omega)
  have n2 : ltI (zag x.heap.next ((zag x.heap.vars (addI k 1)).2)).2 0 = false := by simp only [ltI, decide_eq_false_iff_not]; omega
  have hc : ltI (i : Int) ((mkF_markStateS xs k0).1.length : Int) = true := by simpa [ltI] using hi
  simp only [hc, e0, mkE_markStateS, cond_true, cond_false, Option.bind_some, neI, decide_true, Bool.not_true, w1, n1, w2, n2]
end Go.Ev


namespace Go.Ev
open Wf (wf)
open Sm (sm lg)
theorem cnt_strs' (xs : List ByteArray) : cntF_markStringS xs ≤ xs.length * 1 := totC_le _ 1 xs fun x _ => Nat.le_refl _
theorem cnt_edges' (xs : List TEdge) : cntF_markEdgeS xs ≤ xs.length * 5 := totC_le _ 5 xs fun x _ => Nat.le_refl _
theorem cnt_ints' (xs : List Int) : cntF_markIntS xs ≤ xs.length * 1 := totC_le _ 1 xs fun x _ => Nat.le_refl _
theorem tiny_lg {s : TState} (h : tinyS s) : lg s := ⟨lg_ints (by have := h.1; omega), lg_ints (by have := h.2; omega)⟩
theorem cnt_heaps' {xs : List THeap} (h : sm xs) : cntF_markHeapS xs ≤ 2200000000000 := by
 have := totC_le cntE_markHeapS 2097154 xs fun x hx => by
  have hx := h.2 x hx
  unfold cntE_markHeapS
  have h1 := cnt_ints' x.vars
  have h2 := cnt_ints' x.next
  have := hx.1.1
  have := hx.2.1
  omega
 refine Nat.le_trans this (Nat.le_trans (Nat.mul_le_mul_right _ h.1) (by decide))
theorem cnt_states' {xs : List TState} (h : xs.length ≤ 200) (ht : ∀ x ∈ xs, tinyS x) : cntF_markStateS xs ≤ 4000 := by
 have := totC_le cntE_markStateS 20 xs fun x hx => by
  have hx := ht x hx
  unfold cntE_markStateS
  try unfold cntF_markHeap
  have h1 := cnt_ints' x.heap.vars
  have h2 := cnt_ints' x.heap.next
  have := hx.1
  have := hx.2
  omega
 refine Nat.le_trans this (Nat.le_trans (Nat.mul_le_mul_right _ h) (by decide))
theorem law_StatesFrom {p : TProgram} {start : List THeap} (hp : wf p) (hs : wf start) : laws_FnExactStatesFrom p start = some true := by
 unfold laws_FnExactStatesFrom
 obtain ⟨n, h1, h2, h3, h4⟩ := szProgram_ok hp (left := 1048576) (by omega)
 rw [h1, Option.bind_some, zao]
 by_cases hn : n < 0
 ·rw [if_pos hn]
 ·rw [if_neg hn]
  have s1 := h3 (by omega)
  obtain ⟨m, k1, k2, k3, k4⟩ := szHeapS_ok hs (left := n) (by omega)
  rw [k1, Option.bind_some, zao]
  by_cases hm : m < 0
  ·rw [if_pos hm]
  ·rw [if_neg hm]
   have s2 := k3 (by omega)
   obtain ⟨r, e1, e2, hl, ht⟩ := states_both p start (smP_of s1) s2.1
   have hlg : lg r.1 := ⟨by omega, fun x hx => tiny_lg (ht x hx)⟩
   have b1 := cnt_strs' p.vars
   have b2 := cnt_edges' p.edges
   have b3 := cnt_heaps' s2
   have b4 := cnt_states' hl ht
   have z1 := s1.1.1
   have z2 := s1.2.1
   have m1 := markProgram_snd p 1 (by omega) (by unfold cntF_markProgram maxMark; omega)
   have m2 := markHeapS_snd start (mkF_markProgram p 1).2 (by rw [m1]; omega) (by rw [m1]; unfold cntF_markProgram maxMark; omega)
   have m4 := markStateS_snd r.1 1 (by omega) (by unfold maxMark; omega)
   have w4 := heldStateS_ok hlg (k0 := 1) (by omega) (by unfold maxMark; omega)
   have q3 : ltI (mkF_markHeapS start (mkF_markProgram p 1).2).2 0 = false := by simp only [ltI, decide_eq_false_iff_not]; rw [m2, m1]; omega
   have q4 : ltI (mkF_markStateS r.1 1).2 0 = false := by simp only [ltI, decide_eq_false_iff_not]; rw [m4]; omega
   simp [toProgram_ok s1, toHeapS_ok s2, e1, e2, neI, neB, eqStateS_ok hlg, eqProgram_ok (sm_lg s1), eqHeapS_ok (sm_lg s2), markO_some (sm_lg s1), markO_some (sm_lg s2), markO_some hlg, q3, q4, w4]
end Go.Ev

