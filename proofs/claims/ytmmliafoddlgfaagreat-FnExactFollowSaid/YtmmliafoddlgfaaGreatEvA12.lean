import Derived.Test.YtmmliafoddlgfaaGreatEvA11
import Derived.Test.YtmmliafoddlgfaaGreatEvA10
import Derived.Test.YtmmliafoddlgfaaGreatProg
import Derived.KernelRfl
import Derived.WalkKit
import Derived.Deep.LoopGhost
import Derived.Lib.Walk
import Derived.Lib.SliceRun
import Derived.Laws.OwnMore
import Derived.Lib.AppendZerosOnto
import Derived.Test.YtmmliafoddlgfaaGreatEvA8
import Derived.Deep.RegionLaw
import Derived.Shelf.RegionOpenPlain
import Derived.Lib.SlicesDelete
import Derived.Laws.Rows
import Derived.Laws.IdiomStrings
import Derived.Laws.BytesArg
set_option linter.unusedSimpArgs false
set_option linter.unusedVariables false
set_option linter.unnecessarySimpa false
namespace Go.Ev
theorem spec_copy (h : THeap) (o : okH h) : spec_l7Copy h = some h := by
  unfold spec_l7Copy
  have o1 := o.1
  have o2 := o.2
  simp [room_small (show ([] : List Int).length + h.vars.length ≤ 4000000 by simp; omega) (show 8 ≤ 1000 by omega), room_small (show ([] : List Int).length + h.next.length ≤ 4000000 by simp; omega) (show 8 ≤ 1000 by omega)]
  simp [room_small (show h.vars.length ≤ 4000000 by omega) (show 8 ≤ 1000 by omega), room_small (show h.next.length ≤ 4000000 by omega) (show 8 ≤ 1000 by omega)]
structure Good (nv : Nat) (h : THeap) : Prop where
  v1 : h.vars.length = nv
  v2 : 1 ≤ nv ∧ nv ≤ 4
  n1 : h.next.length ≤ 6
  cv : ∀ x ∈ h.vars, -1 ≤ x ∧ x < (h.next.length : Int)
  cn : ∀ x ∈ h.next, -1 ≤ x ∧ x < (h.next.length : Int)
theorem good_of {nv : Nat} {h : THeap} (hh : isHeapB (nv : Int) h = true) : Good nv h := by
  unfold isHeapB at hh
  simp only [Bool.and_eq_true, decide_eq_true_eq, cellsB, List.all_eq_true, inH] at hh
  obtain ⟨⟨⟨⟨⟨h1, h2⟩, h3⟩, h4, h5⟩, _⟩, _⟩ := hh
  exact ⟨by omega, by omega, by omega, fun x hx => by have := h4 x hx; omega, fun x hx => by have := h5 x hx; omega⟩
theorem Good.ok {nv : Nat} {h : THeap} (g : Good nv h) : okH h := ⟨by have := g.v1; have := g.v2; omega, by have := g.n1; omega⟩
theorem ok_set {h : THeap} {a : Nat} {x : Int} (o : okH h) : okH ⟨h.vars.set a x, h.next⟩ := ⟨by simpa using o.1, o.2⟩
theorem ok_setn {h : THeap} {a : Nat} {x : Int} (o : okH h) : okH ⟨h.vars, h.next.set a x⟩ := ⟨o.1, by simpa using o.2⟩
theorem getD_mem {xs : List Int} {i : Int} (h : 0 ≤ i ∧ i < (xs.length : Int)) : xs.getD i.toNat 0 ∈ xs := by
  have : i.toNat < xs.length := by omega
  simp [List.getD, this]
theorem impl_at (h : THeap) (vars : List ByteArray) (nm : ByteArray) (hn : smN vars) (hl : h.vars.length = vars.length) : impl_Heap_at h vars nm = some (if 0 ≤ idxS vars nm then h.vars.getD (idxS vars nm).toNat 0 else -1) := by
  unfold impl_Heap_at
  have hr := idxS_in vars nm
  rw [impl_indexOf vars nm hn.1, Option.bind_some, cond_le]
  by_cases h0 : 0 ≤ idxS vars nm
  · rw [if_pos h0, if_pos h0, at_in (by omega)]; rfl
  · rw [if_neg h0, if_neg h0]
theorem max0 (x : Int) : spec_l1Max 0 x = some (if x < 0 then 0 else x) := by
  unfold spec_l1Max
  rw [cond_lt]
  split <;> rfl
theorem isTest_eq (s : TStmt) : impl_IsTest s = some (decide (9 ≤ s.kind ∧ s.kind ≤ 12)) ∧ spec_IsTest s = some (decide (9 ≤ s.kind ∧ s.kind ≤ 12)) := by
  unfold impl_IsTest spec_IsTest
  rw [within_eq, l1In_eq]
  exact ⟨rfl, rfl⟩
structure Both (vars : List ByteArray) (s : TStmt) (h : THeap) (r : THeap × Int) : Prop where
  spec : spec_Exec vars s h = some r
  impl : impl_Exec vars s h = some r
  tiny : r.1.vars.length ≤ 4 ∧ r.1.next.length ≤ 7
theorem fin_tiny {x : THeap} (h : x.vars.length ≤ 4 ∧ x.next.length ≤ 7) : (finF x).1.vars.length ≤ 4 ∧ (finF x).1.next.length ≤ 7 := by
  have := canF_len x
  unfold finF
  split
  · simp
  · exact ⟨Nat.le_trans this.1 h.1, Nat.le_trans this.2 h.2⟩
theorem len_set {h : THeap} {nv a : Nat} {x : Int} (g : Good nv h) : (h.vars.set a x).length ≤ 4 ∧ h.next.length ≤ 7 := ⟨by have := g.v1; have := g.v2; simp; omega, by have := g.n1; omega⟩
theorem len_setn {h : THeap} {nv a : Nat} {x : Int} (g : Good nv h) : h.vars.length ≤ 4 ∧ (h.next.set a x).length ≤ 7 := ⟨by have := g.v1; have := g.v2; omega, by have := g.n1; simp; omega⟩
noncomputable def specTail (s : TStmt) (h : THeap) (A B : Int) : Option (THeap × Int) := (spec_l8Do s h A B).bind fun y => cond (neI y.2 0) (some ((⟨[], []⟩ : THeap), y.2)) ((spec_HasLeak y.1).bind fun y_54 => cond y_54 (some ((⟨[], []⟩ : THeap), (4 : Int))) ((spec_CanonHeap y.1).bind fun y_58 => some (y_58, 0)))
theorem specTail_ok {s : TStmt} {h : THeap} {A B : Int} {x : THeap} (hd : spec_l8Do s h A B = some (x, 0)) (o : okH x) : specTail s h A B = some (finF x) := by
  unfold specTail
  rw [hd, Option.bind_some]
  exact spec_fin x o
theorem specTail_err {s : TStmt} {h : THeap} {A B : Int} {x : THeap} {c : Int} (hd : spec_l8Do s h A B = some (x, c)) (hc : c ≠ 0) : specTail s h A B = some (⟨[], []⟩, c) := by
  unfold specTail
  rw [hd, Option.bind_some]
  simp [neI, hc]
noncomputable def implTail (s : TStmt) (h : THeap) (own va vb : Int) : Option (THeap × Int) := (zal h s own va vb).bind fun x => (impl_HasLeak x).bind fun y_54 => cond y_54 (some ((⟨[], []⟩ : THeap), (4 : Int))) ((impl_CanonHeap x).bind fun y_58 => some (y_58, 0))
theorem implTail_ok {s : TStmt} {h : THeap} {own va vb : Int} {x : THeap} (hd : zal h s own va vb = some x) (o : okH x) : implTail s h own va vb = some (finF x) := by
  unfold implTail
  rw [hd, Option.bind_some]
  exact impl_fin x o
noncomputable def specMid (k : Int) (a b : ByteArray) (h : THeap) (A B : Int) : Option (THeap × Int) :=
  (spec_l8Null ⟨k, a, b⟩ h A B).bind fun y_64 => cond y_64 (some ((⟨[], []⟩ : THeap), (2 : Int)))
    ((show Option Bool from cond (eqI k 3) (some (eqI (h.next.length : Int) 6)) (some false)).bind fun r_68 => cond r_68 (some ((⟨[], []⟩ : THeap), (6 : Int))) (specTail ⟨k, a, b⟩ h A B))
noncomputable def implMid (k : Int) (a b : ByteArray) (h : THeap) (own va vb : Int) : Option (THeap × Int) :=
  (impl_needs k va vb).bind fun y_31 => (show Option Bool from cond y_31.2 (some (eqI y_31.1 (-1))) (some false)).bind fun r_59 => cond r_59 (some ((⟨[], []⟩ : THeap), (2 : Int)))
    ((show Option Bool from cond (eqI k 3) (some (eqI (h.next.length : Int) 6)) (some false)).bind fun r_76 => cond r_76 (some ((⟨[], []⟩ : THeap), (6 : Int)))
      ((show Option Bool from cond (eqI k 8) ((impl_Positions h.vars va).bind fun y_109 => cond (ltI 1 (y_109.length : Int)) (some true) ((zaf h.next va).bind fun y_113 => some y_113)) (some false)).bind fun r_93 => cond r_93 (some ((⟨[], []⟩ : THeap), (5 : Int)))
        ((show Option Bool from cond (eqI k 7) ((impl_Followed h vb).bind fun y_133 => (zaf y_133 va).bind fun y_136 => some y_136) (some false)).bind fun r_117 => cond r_117 (some ((⟨[], []⟩ : THeap), (3 : Int))) (implTail ⟨k, a, b⟩ h own va vb))))
def testB (k va vb : Int) : Bool := if k = 9 then decide (va = -1) else if k = 10 then !decide (va = -1) else if k = 11 then decide (va = vb) else !decide (va = vb)
theorem spec_test (k va vb : Int) : spec_l8Test k va vb = some (testB k va vb) := by
  unfold spec_l8Test testB
  simp only [cond_eq]
  split
  · rfl
  · split
    · rfl
    · split <;> rfl
theorem impl_test (k va vb : Int) : impl_holds k va vb = some (testB k va vb) := by
  unfold impl_holds testB
  simp only [cond_eq]
  split
  · rfl
  · split
    · rfl
    · split <;> rfl
theorem specMid_go {k : Int} {a b : ByteArray} {h : THeap} {A B : Int} (h3 : eqI k 3 = false) (hn : spec_l8Null ⟨k, a, b⟩ h A B = some false) : specMid k a b h A B = specTail ⟨k, a, b⟩ h A B := by
  unfold specMid
  rw [hn, h3]
  rfl
theorem specMid_nul {k : Int} {a b : ByteArray} {h : THeap} {A B : Int} (hn : spec_l8Null ⟨k, a, b⟩ h A B = some true) : specMid k a b h A B = some (⟨[], []⟩, 2) := by
  unfold specMid
  rw [hn]
  rfl
theorem implMid_nul {k : Int} {a b : ByteArray} {h : THeap} {own va vb v : Int} (hn : impl_needs k va vb = some (v, true)) (hv : v = -1) : implMid k a b h own va vb = some (⟨[], []⟩, 2) := by
  unfold implMid
  rw [hn, hv]
  rfl
theorem need_ok {v : Int} {is : Bool} (hz : is = true → v ≠ -1) : cond is (some (eqI v (-1))) (some false) = some false := by
  cases is
  · rfl
  · have := hz rfl
    simp [eqI, this]
theorem implMid_go {k : Int} {a b : ByteArray} {h : THeap} {own va vb v : Int} {is : Bool} (h3 : eqI k 3 = false) (h8 : eqI k 8 = false) (h7 : eqI k 7 = false) (hn : impl_needs k va vb = some (v, is)) (hz : is = true → v ≠ -1) : implMid k a b h own va vb = implTail ⟨k, a, b⟩ h own va vb := by
  have := need_ok hz
  unfold implMid
  simp only [hn, Option.bind_some, h3, h8, h7, cond_false, this]
theorem exec_both (vars : List ByteArray) (s : TStmt) (h : THeap) (hn : smN vars) : ∃ r, Both vars s h r := by
  cases hst : stB vars s with
  | false => exact ⟨(⟨[], []⟩, 7), by unfold spec_Exec; simp [spec_isStmt vars s hn, hst], by unfold impl_Exec; simp [impl_isStmt vars s hn, hst], by simp⟩
  | true =>
  cases hhp : isHeapB (vars.length : Int) h with
  | false => exact ⟨(⟨[], []⟩, 7), by unfold spec_Exec; simp [spec_isStmt vars s hn, hst, spec_isHeap, hhp, notB], by unfold impl_Exec; simp [impl_isStmt vars s hn, hst, impl_isHeap, hhp, notB], by simp⟩
  | true =>
  have g := good_of hhp
  have hv1 := g.v1
  have hv2 := g.v2
  have hn1 := g.n1
  have hnk : 1 ≤ s.kind ∧ s.kind ≤ 12 := by
    unfold stB at hst
    simp only [Bool.and_eq_true, decide_eq_true_eq] at hst
    obtain ⟨_, h0, _⟩ := hst
    unfold nk at h0
    by_cases hc : 1 ≤ s.kind ∧ s.kind ≤ 12
    · exact hc
    · rw [if_neg (by omega), if_neg (by omega), if_neg (by omega)] at h0
      omega
  have hia := idxS_in vars s.a
  have hib := idxS_in vars s.b
  have hA : nk s.kind ≥ 1 → 0 ≤ idxS vars s.a := fun hk => by
    unfold stB at hst
    simp only [Bool.and_eq_true] at hst
    have := hst.2.2.1
    rw [if_neg (by omega)] at this
    simpa using this
  have hB : nk s.kind ≥ 2 → 0 ≤ idxS vars s.b := fun hk => by
    unfold stB at hst
    simp only [Bool.and_eq_true] at hst
    have := hst.2.2.2
    rw [if_neg (by omega)] at this
    simpa using this
  obtain ⟨k, a, b⟩ := s
  simp only at hnk hA hB hia hib
  -- what stands at the names
  obtain ⟨ia, ea⟩ : ∃ ia, ia = idxS vars a := ⟨_, rfl⟩
  obtain ⟨ib, eb⟩ : ∃ ib, ib = idxS vars b := ⟨_, rfl⟩
  rw [← ea] at hia hA
  rw [← eb] at hib hB
  have atA : at? h.vars (if ia < 0 then 0 else ia) = some (h.vars.getD (if ia < 0 then 0 else ia).toNat 0) := at_in (by split <;> omega)
  have atB : at? h.vars (if ib < 0 then 0 else ib) = some (h.vars.getD (if ib < 0 then 0 else ib).toNat 0) := at_in (by split <;> omega)
  have S0 : spec_Exec vars ⟨k, a, b⟩ h = ((show Option Bool from cond (decide (9 ≤ k ∧ k ≤ 12)) ((spec_l8Test k (h.vars.getD (if ia < 0 then 0 else ia).toNat 0) (h.vars.getD (if ib < 0 then 0 else ib).toNat 0)).bind fun y => some (notB y)) (some false)).bind fun r_33 =>
      cond r_33 (some ((⟨[], []⟩ : THeap), (1 : Int))) (specMid k a b h (if ia < 0 then 0 else ia) (if ib < 0 then 0 else ib))) := by
    unfold spec_Exec specMid specTail
    simp only [spec_isStmt vars _ hn, hst, spec_isHeap, hhp, notB, Option.bind_some, cond_true, Bool.not_true, cond_false, spec_indexOf vars _ hn.1, ← ea, ← eb, max0, (isTest_eq _).2, atA, atB, spec_copy h g.ok]
  have I0 : impl_Exec vars ⟨k, a, b⟩ h = ((show Option Bool from cond (decide (9 ≤ k ∧ k ≤ 12)) ((impl_holds k (if 0 ≤ ia then h.vars.getD ia.toNat 0 else -1) (if 0 ≤ ib then h.vars.getD ib.toNat 0 else -1)).bind fun y => some (notB y)) (some false)).bind fun r_33 =>
      cond r_33 (some ((⟨[], []⟩ : THeap), (1 : Int))) (implMid k a b h ia (if 0 ≤ ia then h.vars.getD ia.toNat 0 else -1) (if 0 ≤ ib then h.vars.getD ib.toNat 0 else -1))) := by
    unfold impl_Exec implMid implTail
    simp only [impl_isStmt vars _ hn, hst, impl_isHeap, hhp, notB, Option.bind_some, cond_true, Bool.not_true, cond_false, impl_indexOf vars _ hn.1, ← ea, ← eb, impl_at h vars _ hn hv1, (isTest_eq _).1]
    unfold impl_needs
    simp only [cond_eq]
    split
    · rfl
    · split
      · rfl
      · split
        · rfl
        · split <;> rfl
  obtain ⟨A, hAd⟩ : ∃ A, A = (if ia < 0 then 0 else ia) := ⟨_, rfl⟩
  obtain ⟨B, hBd⟩ : ∃ B, B = (if ib < 0 then 0 else ib) := ⟨_, rfl⟩
  obtain ⟨va, hva⟩ : ∃ va, va = (if 0 ≤ ia then h.vars.getD ia.toNat 0 else -1) := ⟨_, rfl⟩
  obtain ⟨vb, hvb⟩ : ∃ vb, vb = (if 0 ≤ ib then h.vars.getD ib.toNat 0 else -1) := ⟨_, rfl⟩
  rw [← hAd] at S0 atA
  rw [← hBd] at S0 atB
  rw [← hva, ← hvb] at I0
  have FA : nk k ≥ 1 → A = ia ∧ 0 ≤ ia ∧ at? h.vars ia = some va ∧ -1 ≤ va ∧ va < (h.next.length : Int) ∧ h.vars.getD A.toNat 0 = va := fun hk => by
    have h0 := hA hk
    rw [if_neg (by omega)] at hAd
    rw [if_pos h0] at hva
    subst hAd
    have := g.cv _ (getD_mem (xs := h.vars) (i := A) (by omega))
    rw [hva]
    exact ⟨rfl, h0, atA, this.1, this.2, rfl⟩
  have FB : nk k ≥ 2 → B = ib ∧ 0 ≤ ib ∧ at? h.vars ib = some vb ∧ -1 ≤ vb ∧ vb < (h.next.length : Int) ∧ h.vars.getD B.toNat 0 = vb := fun hk => by
    have h0 := hB hk
    rw [if_neg (by omega)] at hBd
    rw [if_pos h0] at hvb
    subst hBd
    have := g.cv _ (getD_mem (xs := h.vars) (i := B) (by omega))
    rw [hvb]
    exact ⟨rfl, h0, atB, this.1, this.2, rfl⟩
  have ok := g.ok
  have cl1 : slices_Clone_int h.vars = some h.vars := clone_int _ ok.v
  have cl2 : slices_Clone_int h.next = some h.next := clone_int _ ok.n
  have S1 : decide (9 ≤ k ∧ k ≤ 12) = false → spec_Exec vars ⟨k, a, b⟩ h = specMid k a b h A B := fun hd => by rw [S0, hd]; rfl
  have I1 : decide (9 ≤ k ∧ k ≤ 12) = false → impl_Exec vars ⟨k, a, b⟩ h = implMid k a b h ia va vb := fun hd => by rw [I0, hd]; rfl
  have T1 : decide (9 ≤ k ∧ k ≤ 12) = true → ∀ tb, testB k (h.vars.getD A.toNat 0) (h.vars.getD B.toNat 0) = tb → testB k va vb = tb → eqI k 3 = false → eqI k 8 = false → eqI k 7 = false → spec_l8Null ⟨k, a, b⟩ h A B = some false → impl_needs k va vb = some (0, false) →
      spec_l8Do ⟨k, a, b⟩ h A B = some (h, 0) → zal h ⟨k, a, b⟩ ia va vb = some h → ∃ r, Both vars ⟨k, a, b⟩ h r := fun hd tb t1 t2 h3 h8 h7 n1 n2 d1 d2 => by
    have S : spec_Exec vars ⟨k, a, b⟩ h = cond (notB tb) (some ((⟨[], []⟩ : THeap), (1 : Int))) (specMid k a b h A B) := by rw [S0, hd, spec_test, t1]; rfl
    have I : impl_Exec vars ⟨k, a, b⟩ h = cond (notB tb) (some ((⟨[], []⟩ : THeap), (1 : Int))) (implMid k a b h ia va vb) := by rw [I0, hd, impl_test, t2]; rfl
    cases tb
    · exact ⟨_, S, I, by simp⟩
    · exact ⟨finF h, S.trans ((specMid_go h3 n1).trans (specTail_ok d1 ok)), I.trans ((implMid_go h3 h8 h7 n2 (fun e => by cases e)).trans (implTail_ok d2 ok)), fin_tiny ⟨by omega, by omega⟩⟩
  rcases kinds hnk with rfl | rfl | rfl | rfl | rfl | rfl | rfl | rfl | rfl | rfl | rfl | rfl
  · refine ⟨finF h, (S1 rfl).trans ((specMid_go rfl rfl).trans (specTail_ok rfl ok)), (I1 rfl).trans ((implMid_go rfl rfl rfl rfl (fun e => by cases e)).trans (implTail_ok ?_ ok)), fin_tiny ⟨by omega, by omega⟩⟩
    unfold zal
    rw [cl1, cl2]
    rfl
  · obtain ⟨rfl, h0, at1, w1, w2, _⟩ := FA (by decide)
    refine ⟨finF ⟨h.vars.set A.toNat (-1), h.next⟩, (S1 rfl).trans ((specMid_go rfl rfl).trans (specTail_ok ?_ (ok_set ok))), (I1 rfl).trans ((implMid_go rfl rfl rfl rfl (fun e => by cases e)).trans (implTail_ok ?_ (ok_set ok))), fin_tiny (len_set g)⟩
    · show (at? h.vars A).bind _ = _
      rw [at1]; rfl
    · unfold zal
      rw [cl1, cl2]
      show (at? h.vars A).bind _ = _
      rw [at1]; rfl
  · obtain ⟨rfl, h0, at1, w1, w2, _⟩ := FA (by decide)
    by_cases hf : (h.next.length : Int) = 6
    · refine ⟨(⟨[], []⟩, 6), (S1 rfl).trans ?_, (I1 rfl).trans ?_, by simp⟩
      · show cond (eqI (h.next.length : Int) 6) _ _ = _
        simp [eqI, hf]
      · show cond (eqI (h.next.length : Int) 6) _ _ = _
        simp [eqI, hf]
    · have hr : room (h.next.length + [(-1 : Int)].length) 8 = some () := room_small (by simp; omega) (by omega)
      have ok3 : okH ⟨h.vars.set A.toNat (h.next.length : Int), h.next ++ [-1]⟩ := ⟨by have := ok.1; simpa using this, by simp; omega⟩
      refine ⟨finF ⟨h.vars.set A.toNat (h.next.length : Int), h.next ++ [-1]⟩, (S1 rfl).trans (Eq.trans (?_ : _ = specTail ⟨3, a, b⟩ h A B) (specTail_ok ?_ ok3)), (I1 rfl).trans (Eq.trans (?_ : _ = implTail ⟨3, a, b⟩ h A va vb) (implTail_ok ?_ ok3)), fin_tiny ⟨by simp; omega, by simp; omega⟩⟩
      · show cond (eqI (h.next.length : Int) 6) _ _ = _
        simp [eqI, hf]
      · show (at? h.vars A).bind _ = _
        rw [at1, Option.bind_some, hr]; rfl
      · show cond (eqI (h.next.length : Int) 6) _ _ = _
        simp only [eqI, hf, decide_false, cond_false]
        rfl
      · unfold zal
        rw [cl1, cl2]
        show (at? h.vars A).bind _ = _
        rw [at1, Option.bind_some, hr]; rfl
  · obtain ⟨rfl, h0, at1, w1, w2, _⟩ := FA (by decide)
    obtain ⟨rfl, h0', at1', w1', w2', _⟩ := FB (by decide)
    refine ⟨finF ⟨h.vars.set A.toNat vb, h.next⟩, (S1 rfl).trans ((specMid_go rfl rfl).trans (specTail_ok ?_ (ok_set ok))), (I1 rfl).trans ((implMid_go rfl rfl rfl rfl (fun e => by cases e)).trans (implTail_ok ?_ (ok_set ok))), fin_tiny (len_set g)⟩
    · show (at? h.vars B).bind _ = _
      rw [at1', Option.bind_some, at1]; rfl
    · unfold zal
      rw [cl1, cl2]
      show (at? h.vars A).bind _ = _
      rw [at1]; rfl
  · obtain ⟨rfl, h0, at1, w1, w2, _⟩ := FA (by decide)
    obtain ⟨rfl, h0', at1', w1', w2', _⟩ := FB (by decide)
    by_cases hz : vb = -1
    · refine ⟨(⟨[], []⟩, 2), (S1 rfl).trans (specMid_nul ?_), (I1 rfl).trans (implMid_nul rfl hz), by simp⟩
      show (at? h.vars B).bind _ = _
      rw [at1']; simp [eqI, hz]
    · have at2 : at? h.next vb = some (h.next.getD vb.toNat 0) := at_in (by omega)
      refine ⟨finF ⟨h.vars.set A.toNat (h.next.getD vb.toNat 0), h.next⟩, (S1 rfl).trans ((specMid_go rfl ?_).trans (specTail_ok ?_ (ok_set ok))), (I1 rfl).trans ((implMid_go rfl rfl rfl rfl (fun _ => hz)).trans (implTail_ok ?_ (ok_set ok))), fin_tiny (len_set g)⟩
      · show (at? h.vars B).bind _ = _
        rw [at1']; simp [eqI, hz]
      · show (at? h.vars B).bind _ = _
        rw [at1', Option.bind_some, at2, Option.bind_some, at1]; rfl
      · unfold zal
        rw [cl1, cl2]
        show (at? h.next vb).bind _ = _
        rw [at2, Option.bind_some, at1]; rfl
  · obtain ⟨rfl, h0, at1, w1, w2, _⟩ := FA (by decide)
    by_cases hz : va = -1
    · refine ⟨(⟨[], []⟩, 2), (S1 rfl).trans (specMid_nul ?_), (I1 rfl).trans (implMid_nul rfl hz), by simp⟩
      show (at? h.vars A).bind _ = _
      rw [at1]; simp [eqI, hz]
    · have at2 : at? h.next va = some (h.next.getD va.toNat 0) := at_in (by omega)
      refine ⟨finF ⟨h.vars, h.next.set va.toNat (-1)⟩, (S1 rfl).trans ((specMid_go rfl ?_).trans (specTail_ok ?_ (ok_setn ok))), (I1 rfl).trans ((implMid_go rfl rfl rfl rfl (fun _ => hz)).trans (implTail_ok ?_ (ok_setn ok))), fin_tiny (len_setn g)⟩
      · show (at? h.vars A).bind _ = _
        rw [at1]; simp [eqI, hz]
      · show (at? h.vars A).bind _ = _
        rw [at1, Option.bind_some, at2]; rfl
      · unfold zal
        rw [cl1, cl2]
        show (at? h.next va).bind _ = _
        rw [at2]; rfl
  · obtain ⟨rfl, h0, at1, w1, w2, _⟩ := FA (by decide)
    obtain ⟨rfl, h0', at1', w1', w2', _⟩ := FB (by decide)
    by_cases hz : va = -1
    · refine ⟨(⟨[], []⟩, 2), (S1 rfl).trans (specMid_nul ?_), (I1 rfl).trans (implMid_nul rfl hz), by simp⟩
      show (at? h.vars A).bind _ = _
      rw [at1]; simp [eqI, hz]
    · have at2 : at? h.next va = some (h.next.getD va.toNat 0) := at_in (by omega)
      have sn : spec_l8Null ⟨7, a, b⟩ h A B = some false := by
        show (at? h.vars A).bind _ = _
        rw [at1]; simp [eqI, hz]
      have hfol : spec_l7Has (folL h.next vb) va = some (decide (va ∈ folL h.next vb)) := l7Has _ _ (small_fol ok.n vb)
      have hcon : zaf (folL h.next vb) va = some (decide (va ∈ folL h.next vb)) := contains_int _ _ (small_fol ok.n vb)
      have im : implMid 7 a b h A va vb = cond (decide (va ∈ folL h.next vb)) (some ((⟨[], []⟩ : THeap), (3 : Int))) (implTail ⟨7, a, b⟩ h A va vb) := by
        unfold implMid
        rw [show impl_needs 7 va vb = some (va, true) from rfl]
        simp only [Option.bind_some, cond_true, cond_false, show eqI (7 : Int) 3 = false from rfl, show eqI (7 : Int) 8 = false from rfl, show eqI (7 : Int) 7 = true from rfl, show eqI va (-1) = false from by simp [eqI, hz], impl_followed h ok.n vb, hcon]
      by_cases hcy : va ∈ folL h.next vb
      · refine ⟨(⟨[], []⟩, 3), (S1 rfl).trans ((specMid_go rfl sn).trans (specTail_err (x := ⟨[], []⟩) ?_ (by decide))), (I1 rfl).trans (im.trans (by simp [hcy])), by simp⟩
        show (at? h.vars B).bind _ = _
        rw [at1', Option.bind_some, spec_followed h ok.n vb, Option.bind_some, at1, Option.bind_some, hfol]
        simp [hcy]
      · refine ⟨finF ⟨h.vars, h.next.set va.toNat vb⟩, (S1 rfl).trans ((specMid_go rfl sn).trans (specTail_ok ?_ (ok_setn ok))), (I1 rfl).trans (im.trans (Eq.trans (b := implTail ⟨7, a, b⟩ h A va vb) (by simp [hcy]) (implTail_ok ?_ (ok_setn ok)))), fin_tiny (len_setn g)⟩
        · show (at? h.vars B).bind _ = _
          rw [at1', Option.bind_some, spec_followed h ok.n vb, Option.bind_some, at1, Option.bind_some, hfol]
          simp [hcy, at2]
        · unfold zal
          rw [cl1, cl2]
          show (at? h.next va).bind _ = _
          rw [at2]; rfl
  · obtain ⟨rfl, h0, at1, w1, w2, _⟩ := FA (by decide)
    by_cases hz : va = -1
    · refine ⟨(⟨[], []⟩, 2), (S1 rfl).trans (specMid_nul ?_), (I1 rfl).trans (implMid_nul rfl hz), by simp⟩
      show (at? h.vars A).bind _ = _
      rw [at1]; simp [eqI, hz]
    · have sn : spec_l8Null ⟨8, a, b⟩ h A B = some false := by
        show (at? h.vars A).bind _ = _
        rw [at1]; simp [eqI, hz]
      have hp := positions h.vars va ok.v
      have hhas : spec_l7Has h.next va = some (decide (va ∈ h.next)) := l7Has _ _ ok.n
      have hcon : zaf h.next va = some (decide (va ∈ h.next)) := contains_int _ _ ok.n
      have im : implMid 8 a b h A va vb = cond (decide (1 < ((posF va 0 h.vars).length : Int)) || decide (va ∈ h.next)) (some ((⟨[], []⟩ : THeap), (5 : Int))) (implTail ⟨8, a, b⟩ h A va vb) := by
        unfold implMid
        rw [show impl_needs 8 va vb = some (va, true) from rfl]
        simp only [Option.bind_some, cond_true, cond_false, show eqI (8 : Int) 3 = false from rfl, show eqI (8 : Int) 7 = false from rfl, show eqI (8 : Int) 8 = true from rfl, show eqI va (-1) = false from by simp [eqI, hz], positions_eq, hp, hcon, ltI]
        cases decide (1 < ((posF va 0 h.vars).length : Int)) <;> cases decide (va ∈ h.next) <;> rfl
      have sd : spec_l8Do ⟨8, a, b⟩ h A B = (spec_l8Free h A).bind fun y => some (y.1, y.2) := rfl
      have sf : spec_l8Free h A = cond (decide (1 < ((posF va 0 h.vars).length : Int)) || decide (va ∈ h.next)) (some (⟨[], []⟩, 5)) ((spec_l8Without ⟨h.vars.set A.toNat (-1), h.next⟩ va).bind fun y_20 => some (y_20, 0)) := by
        unfold spec_l8Free
        rw [at1, Option.bind_some, hp, Option.bind_some, hhas]
        simp only [ltI, Option.bind_some]
        cases decide (1 < ((posF va 0 h.vars).length : Int)) <;> cases decide (va ∈ h.next) <;> rfl
      cases hdang : (decide (1 < ((posF va 0 h.vars).length : Int)) || decide (va ∈ h.next)) with
      | true =>
        rw [hdang] at im sf
        exact ⟨(⟨[], []⟩, 5), (S1 rfl).trans ((specMid_go rfl sn).trans (specTail_err (x := ⟨[], []⟩) (by rw [sd, sf]; rfl) (by decide))), (I1 rfl).trans im, by simp⟩
      | false =>
        rw [hdang] at im sf
        have hcv : ∀ x ∈ h.vars.set A.toNat (-1), -1 ≤ x ∧ x ≤ 1000 := fun x hx => by
          rcases List.mem_or_eq_of_mem_set hx with h | rfl
          · have := g.cv x h; omega
          · omega
        have hw := spec_without ⟨h.vars.set A.toNat (-1), h.next⟩ va (ok_set ok) (by simp; omega) hcv (fun x hx => by have := g.cn x hx; omega)
        have ok8 : okH ⟨(h.vars.set A.toNat (-1)).map (decI va), ((h.next.take va.toNat) ++ h.next.drop (va.toNat + 1)).map (decI va)⟩ := ⟨by have := ok.1; simpa using this, by simp; omega⟩
        refine ⟨finF _, (S1 rfl).trans ((specMid_go rfl sn).trans (specTail_ok (by rw [sd, sf]; show ((spec_l8Without _ _).bind _).bind _ = _; rw [hw]; rfl) ok8)), (I1 rfl).trans (im.trans (implTail_ok ?_ ok8)), fin_tiny ⟨by simp; omega, by simp; omega⟩⟩
        unfold zal
        rw [cl1, cl2]
        show (at? h.vars A).bind _ = _
        rw [at1, Option.bind_some]
        unfold impl_Heap_without withoutF
        rw [if_pos ⟨by simp; rintro e; rw [e] at hv1; simp at hv1; omega, by simp; omega, by simp; omega, by omega, by simpa using w2⟩]
        rfl
  · obtain ⟨rfl, h0, at1, w1, w2, e1⟩ := FA (by decide)
    exact T1 rfl (testB 9 va vb) (by rw [e1]; rfl) rfl rfl rfl rfl rfl rfl rfl (by unfold zal; rw [cl1, cl2]; rfl)
  · obtain ⟨rfl, h0, at1, w1, w2, e1⟩ := FA (by decide)
    exact T1 rfl (testB 10 va vb) (by rw [e1]; rfl) rfl rfl rfl rfl rfl rfl rfl (by unfold zal; rw [cl1, cl2]; rfl)
  · obtain ⟨rfl, h0, at1, w1, w2, e1⟩ := FA (by decide)
    obtain ⟨rfl, h0', at1', w1', w2', e2⟩ := FB (by decide)
    exact T1 rfl (testB 11 va vb) (by rw [e1, e2]) rfl rfl rfl rfl rfl rfl rfl (by unfold zal; rw [cl1, cl2]; rfl)
  · obtain ⟨rfl, h0, at1, w1, w2, e1⟩ := FA (by decide)
    obtain ⟨rfl, h0', at1', w1', w2', e2⟩ := FB (by decide)
    exact T1 rfl (testB 12 va vb) (by rw [e1, e2]) rfl rfl rfl rfl rfl rfl rfl (by unfold zal; rw [cl1, cl2]; rfl)
end Go.Ev


namespace Go.Ev
open Wf (wf)
open Sm (sm lg)
def tinyS (s : TState) : Prop := s.heap.vars.length ≤ 4 ∧ s.heap.next.length ≤ 7
theorem follow_both (p : TProgram) (h : THeap) (edges : List Int) (hp : smP p) (he : small edges.length) :
    ∃ r, spec_Follow p h edges = some r ∧ impl_Follow p h edges = some r ∧ (tinyS r.1 ∧ 0 ≤ r.2.2 ∧ r.2.2 ≤ (edges.length : Int)) := by
  have hn := hp.1
  have hel := hp.2
  unfold small at he hel
  unfold spec_Follow impl_Follow
  rw [spec_isProgram p hp, impl_isProgram p hp]
  cases prB p with
  | false => exact ⟨_, rfl, rfl, ⟨by simp [tinyS], by simp⟩⟩
  | true =>
  simp only [Option.bind_some, cond_true, spec_isHeap, impl_isHeap]
  cases hhp : isHeapB (p.vars.length : Int) h with
  | false => exact ⟨_, rfl, rfl, ⟨by simp [tinyS], by simp⟩⟩
  | true =>
  have g := good_of hhp
  have hv2 := g.v2
  simp only [cond_true, spec_copy h g.ok, impl_own h g.ok.v g.ok.n, Option.bind_some]
  have hstep : ∀ s : Int × Int × (List Int) × (List Int), (0 ≤ s.1 ∧ s.2.2.1.length ≤ 4 ∧ s.2.2.2.length ≤ 7) →
      (cond (ltI s.1 (edges.length : Int))
                ((at? edges s.1).bind fun e_28 =>
                  (spec_l1In e_28 0 (subI (p.edges.length : Int) 1)).bind fun y_33 =>
                    cond y_33
                      ((at? edges s.1).bind fun _ =>
                        (at? p.edges e_28).bind fun e_42 =>
                          cond (neI e_42.from_ s.2.1)
                            (some (.inr (.inl (7, s.1, s.2.1, s.2.2.1, s.2.2.2))))
                            ((at? edges s.1).bind fun _ =>
                              (at? p.edges e_28).bind fun _ =>
                                (spec_Exec p.vars e_42.stmt (⟨s.2.2.1, s.2.2.2⟩ : THeap)).bind fun y_59 =>
                                  cond (neI y_59.2 0)
                                    (some (.inr (.inl (y_59.2, s.1, s.2.1, s.2.2.1, s.2.2.2))))
                                    (some (.inl (addI s.1 1, e_42.to_, y_59.1.vars, y_59.1.next)))))
                      (some (.inr (.inl (7, s.1, s.2.1, s.2.2.1, s.2.2.2)))))
                (some (.inr (.inr (s.2.1, s.2.2.1, s.2.2.2)))) : Option ((Int × Int × (List Int) × (List Int)) ⊕ ((Int × Int × Int × (List Int) × (List Int)) ⊕ (Int × (List Int) × (List Int))))) =
      (cond (ltI s.1 (edges.length : Int))
                  ((at? edges s.1).bind fun e_30 =>
                    (impl_within e_30 0 (subI (p.edges.length : Int) 1)).bind fun y_35 =>
                      cond y_35
                        ((at? p.edges e_30).bind fun e_39 =>
                          cond (neI e_39.from_ s.2.1)
                            (some (.inr (.inl (7, s.1, s.2.1, s.2.2.1, s.2.2.2))))
                            ((at? p.edges e_30).bind fun _ =>
                              (impl_Exec p.vars e_39.stmt (⟨s.2.2.1, s.2.2.2⟩ : THeap)).bind fun y_50 =>
                                cond (neI y_50.2 0)
                                  (some (.inr (.inl (y_50.2, s.1, s.2.1, s.2.2.1, s.2.2.2))))
                                  ((at? p.edges e_30).bind fun _ =>
                                    some (.inl (addI s.1 1, e_39.to_, y_50.1.vars, y_50.1.next)))))
                        (some (.inr (.inl (7, s.1, s.2.1, s.2.2.1, s.2.2.2)))))
                  (some (.inr (.inr (s.2.1, s.2.2.1, s.2.2.2))))) ∧
      Tot (cond (ltI s.1 (edges.length : Int))
                  ((at? edges s.1).bind fun e_30 =>
                    (impl_within e_30 0 (subI (p.edges.length : Int) 1)).bind fun y_35 =>
                      cond y_35
                        ((at? p.edges e_30).bind fun e_39 =>
                          cond (neI e_39.from_ s.2.1)
                            (some (.inr (.inl (7, s.1, s.2.1, s.2.2.1, s.2.2.2))))
                            ((at? p.edges e_30).bind fun _ =>
                              (impl_Exec p.vars e_39.stmt (⟨s.2.2.1, s.2.2.2⟩ : THeap)).bind fun y_50 =>
                                cond (neI y_50.2 0)
                                  (some (.inr (.inl (y_50.2, s.1, s.2.1, s.2.2.1, s.2.2.2))))
                                  ((at? p.edges e_30).bind fun _ =>
                                    some (.inl (addI s.1 1, e_39.to_, y_50.1.vars, y_50.1.next)))))
                        (some (.inr (.inl (7, s.1, s.2.1, s.2.2.1, s.2.2.2)))))
                  (some (.inr (.inr (s.2.1, s.2.2.1, s.2.2.2)))) : Option ((Int × Int × (List Int) × (List Int)) ⊕ ((Int × Int × Int × (List Int) × (List Int)) ⊕ (Int × (List Int) × (List Int)))))
        (fun o => (∃ s' : Int × Int × (List Int) × (List Int), o = .inl s' ∧ s.1 < (edges.length : Int) ∧ s'.1 = s.1 + 1 ∧ s'.2.2.1.length ≤ 4 ∧ s'.2.2.2.length ≤ 7) ∨
          (∃ c, o = .inr (.inl (c, s.1, s.2.1, s.2.2.1, s.2.2.2)) ∧ s.1 < (edges.length : Int)) ∨ o = .inr (.inr (s.2.1, s.2.2.1, s.2.2.2))) := fun s hs => by
    obtain ⟨i, pt, vs, ns⟩ := s
    obtain ⟨h0, h1, h2⟩ := hs
    simp only at h0 h1 h2 ⊢
    rw [cond_lt, cond_lt]
    by_cases hlt : i < (edges.length : Int)
    · rw [if_pos hlt, if_pos hlt]
      obtain ⟨e, hee⟩ : ∃ e, at? edges i = some e := ⟨_, at_in ⟨h0, hlt⟩⟩
      simp only [hee, Option.bind_some, l1In_eq, within_eq, cond_dec]
      by_cases hin : 0 ≤ e ∧ e ≤ subI (p.edges.length : Int) 1
      · rw [if_pos hin, if_pos hin]
        have hin2 : 0 ≤ e ∧ e < (p.edges.length : Int) := by
          have := hin.2
          rw [subI_eq (by omega) (by omega)] at this
          omega
        have hx : at? p.edges e = some (p.edges.getD e.toNat zE) := at_in' hin2 zE
        obtain ⟨r, hr⟩ := exec_both p.vars (p.edges.getD e.toNat zE).stmt ⟨vs, ns⟩ hn
        simp only [hx, Option.bind_some, hr.spec, hr.impl, cond_ne]
        by_cases hf : (p.edges.getD e.toNat zE).from_ = pt
        · rw [if_pos hf]
          by_cases hc : r.2 = 0
          · rw [if_pos hc]
            refine ⟨trivial, Tot.ret (.inl ⟨_, rfl, hlt, ?_, hr.tiny.1, hr.tiny.2⟩)⟩
            exact addI_eq (by omega) (by omega)
          · rw [if_neg hc]
            exact ⟨trivial, Tot.ret (.inr (.inl ⟨_, rfl, hlt⟩))⟩
        · rw [if_neg hf]
          exact ⟨trivial, Tot.ret (.inr (.inl ⟨_, rfl, hlt⟩))⟩
      · rw [if_neg hin, if_neg hin]
        exact ⟨rfl, Tot.ret (.inr (.inl ⟨_, rfl, hlt⟩))⟩
    · rw [if_neg hlt, if_neg hlt]
      exact ⟨rfl, Tot.ret (.inr (.inr rfl))⟩
  have h00 : (0 : Int) ≤ ((0 : Int), (0 : Int), h.vars, h.next).1 ∧ ((0 : Int), (0 : Int), h.vars, h.next).2.2.1.length ≤ 4 ∧ ((0 : Int), (0 : Int), h.vars, h.next).2.2.2.length ≤ 7 :=
    ⟨Int.le_refl _, by have := g.v1; show h.vars.length ≤ 4; omega, by have := g.n1; show h.next.length ≤ 7; omega⟩
  rw [iter_congr (fun s : Int × Int × (List Int) × (List Int) => 0 ≤ s.1 ∧ s.2.2.1.length ≤ 4 ∧ s.2.2.2.length ≤ 7) (fun s hs => ⟨(hstep s hs).1, fun s' hs' => by
    obtain ⟨o, ho, hq⟩ := (hstep s hs).2
    rw [(hstep s hs).1, ho] at hs'
    cases hs'
    rcases hq with ⟨s2, h1, _, h3, h4, h5⟩ | ⟨c, h1, _⟩ | h1
    · cases h1
      exact ⟨by have := hs.1; omega, h4, h5⟩
    · cases h1
    · cases h1⟩) h00]
  have htot := Tot.loop (Q := fun r : (Int × Int × Int × (List Int) × (List Int)) ⊕ (Int × (List Int) × (List Int)) => Sum.elim (fun r => (0 ≤ r.2.1 ∧ r.2.1 ≤ (edges.length : Int)) ∧ r.2.2.2.1.length ≤ 4 ∧ r.2.2.2.2.length ≤ 7) (fun r => r.2.1.length ≤ 4 ∧ r.2.2.length ≤ 7) r)
    (fun i (s : Int × Int × (List Int) × (List Int)) => s.1 = (i : Int) ∧ s.2.2.1.length ≤ 4 ∧ s.2.2.2.length ≤ 7) edges.length (s := ((0 : Int), (0 : Int), h.vars, h.next)) ⟨rfl, h00.2⟩ (fun i s hI hi => by
      refine (hstep s ⟨by rw [hI.1]; omega, hI.2⟩).2.mono fun o ho => ?_
      rcases ho with ⟨s2, rfl, h2, h3, h4, h5⟩ | ⟨c, rfl, h2⟩ | rfl
      · exact ⟨by have := hI.1; omega, by rw [h3, hI.1]; omega, h4, h5⟩
      · exact ⟨⟨by show 0 ≤ s.1; rw [hI.1]; omega, by show s.1 ≤ _; omega⟩, hI.2⟩
      · exact hI.2)
  obtain ⟨r, hr, hq⟩ := htot
  rw [hr]
  rcases r with r | r
  · exact ⟨_, rfl, rfl, hq.2, hq.1⟩
  · exact ⟨_, rfl, rfl, hq, by simp⟩
theorem smP_of {p : TProgram} (h : sm p) : smP p := by
  refine ⟨⟨?_, fun s hs => ?_⟩, ?_⟩
  · have := h.1.1; unfold small; omega
  · have := h.1.2 s hs
    have : s.size ≤ 1048576 := this
    unfold small; omega
  · have := h.2.1; unfold small; omega
end Go.Ev


namespace Go.Ev
theorem cntE_markStringS_ok (x : ByteArray) (k : Int) (hk : 0 ≤ k) (hb : k + cntE_markStringS x ≤ maxMark) : (mkE_markStringS x k).2 = k + cntE_markStringS x := by
  unfold cntE_markStringS maxMark at *
  unfold mkE_markStringS
  have h0 : addI k 1 = k + 1 := addI_eq (by omega) (by omega)
  simp only
  omega
theorem markStringS_snd (xs : List ByteArray) (k : Int) (hk : 0 ≤ k) (hb : k + cntF_markStringS xs ≤ maxMark) : (mkF_markStringS xs k).2 = k + cntF_markStringS xs := mkRow_snd cntE_markStringS_ok xs k hk hb
theorem cntE_markEdgeS_ok (x : TEdge) (k : Int) (hk : 0 ≤ k) (hb : k + cntE_markEdgeS x ≤ maxMark) : (mkE_markEdgeS x k).2 = k + cntE_markEdgeS x := by
  unfold cntE_markEdgeS maxMark at *
  unfold mkE_markEdgeS
  have h0 : addI k 1 = k + 1 := addI_eq (by omega) (by omega)
  have h1 : addI (addI k 1) 1 = (addI k 1) + 1 := addI_eq (by omega) (by omega)
  have h2 : addI (addI (addI k 1) 1) 1 = (addI (addI k 1) 1) + 1 := addI_eq (by omega) (by omega)
  have h3 : addI (addI (addI (addI k 1) 1) 1) 1 = (addI (addI (addI k 1) 1) 1) + 1 := addI_eq (by omega) (by omega)
  have h4 : addI (addI (addI (addI (addI k 1) 1) 1) 1) 1 = (addI (addI (addI (addI k 1) 1) 1) 1) + 1 := addI_eq (by omega) (by omega)
  simp only
  omega
theorem markEdgeS_snd (xs : List TEdge) (k : Int) (hk : 0 ≤ k) (hb : k + cntF_markEdgeS xs ≤ maxMark) : (mkF_markEdgeS xs k).2 = k + cntF_markEdgeS xs := mkRow_snd cntE_markEdgeS_ok xs k hk hb
theorem markProgram_snd (x : TProgram) (k : Int) (hk : 0 ≤ k) (hb : k + cntF_markProgram x ≤ maxMark) : (mkF_markProgram x k).2 = k + cntF_markProgram x := by
  unfold cntF_markProgram maxMark at *
  unfold mkF_markProgram
  have h0 := markStringS_snd x.vars k (by omega) (by unfold maxMark; omega)
  have h1 := markEdgeS_snd x.edges ((mkF_markStringS x.vars k).2) (by omega) (by unfold maxMark; omega)
  simp only
  omega
theorem cntE_markIntS_ok (x : Int) (k : Int) (hk : 0 ≤ k) (hb : k + cntE_markIntS x ≤ maxMark) : (mkE_markIntS x k).2 = k + cntE_markIntS x := by
  unfold cntE_markIntS maxMark at *
  unfold mkE_markIntS
  have h0 : addI k 1 = k + 1 := addI_eq (by omega) (by omega)
  simp only
  omega
theorem markIntS_snd (xs : List Int) (k : Int) (hk : 0 ≤ k) (hb : k + cntF_markIntS xs ≤ maxMark) : (zaj xs k).2 = k + cntF_markIntS xs := mkRow_snd cntE_markIntS_ok xs k hk hb
theorem heldIntS_ok {xs : List Int} {k0 : Int} (hl : Sm.lg xs) (hk : 0 ≤ k0) (hb : k0 + cntF_markIntS xs ≤ maxMark) : laws_heldIntS (zaj xs k0).1 k0 = some (zaj xs k0).2 := by
  unfold laws_heldIntS
  have hlg : ∀ x ∈ xs, Sm.lg x := hl.2
  rw [held_row (ys := (zaj xs k0).1) (E := mkE_markIntS) (cnt := cntE_markIntS) (xs := xs) cntE_markIntS_ok (fun i x k hx0 hi hx hk hb => ?_) (fun k => by simp [cond_lt]) rfl (by have := hl.1; omega) hk hb]
  · rfl
  · have e0 : at? (zaj xs k0).1 (i : Int) = some (mkE_markIntS x k).1 := by rw [at_nat]; exact hx
    unfold cntE_markIntS maxMark at hb
    have h0 : addI k 1 = k + 1 := addI_eq (by omega) (by omega)
    have hc : ltI (i : Int) ((zaj xs k0).1.length : Int) = true := by simpa [ltI] using hi
    simp only [hc, e0, mkE_markIntS, cond_true, cond_false, Option.bind_some, neI, decide_true, Bool.not_true, ]
theorem markHeap_snd (x : THeap) (k : Int) (hk : 0 ≤ k) (hb : k + cntF_markHeap x ≤ maxMark) : (mkF_markHeap x k).2 = k + cntF_markHeap x := by
  unfold cntF_markHeap maxMark at *
  unfold mkF_markHeap
  have h0 := markIntS_snd x.vars k (by omega) (by unfold maxMark; omega)
  have h1 := markIntS_snd x.next ((zaj x.vars k).2) (by omega) (by unfold maxMark; omega)
  simp only
  omega
theorem heldHeap_ok {x : THeap} {k : Int} (hl : Sm.lg x) (hk : 0 ≤ k) (hb : k + cntF_markHeap x ≤ maxMark) : laws_heldHeap (mkF_markHeap x k).1 k = some (mkF_markHeap x k).2 := by
  unfold cntF_markHeap maxMark at hb
  unfold laws_heldHeap mkF_markHeap
  have h0 := markIntS_snd x.vars k (by omega) (by unfold maxMark; omega)
  have w0 := heldIntS_ok (xs := x.vars) (k0 := k) hl.1 (by omega) (by unfold maxMark; omega)
  have n0 : ltI (zaj x.vars k).2 0 = false := by simp only [ltI, decide_eq_false_iff_not]; omega
  have h1 := markIntS_snd x.next ((zaj x.vars k).2) (by omega) (by unfold maxMark; omega)
  have w1 := heldIntS_ok (xs := x.next) (k0 := (zaj x.vars k).2) hl.2 (by omega) (by unfold maxMark; omega)
  have n1 : ltI (zaj x.next ((zaj x.vars k).2)).2 0 = false := by simp only [ltI, decide_eq_false_iff_not]; omega
  simp only [cond_false, Option.bind_some, w0, n0, w1, n1]
theorem markState_snd (x : TState) (k : Int) (hk : 0 ≤ k) (hb : k + cntF_markState x ≤ maxMark) : (mkF_markState x k).2 = k + cntF_markState x := by
  unfold cntF_markState maxMark at *
  unfold mkF_markState
  have h0 := markHeap_snd x.heap k (by omega) (by unfold maxMark; omega)
  simp only
  omega
theorem heldState_ok {x : TState} {k : Int} (hl : Sm.lg x) (hk : 0 ≤ k) (hb : k + cntF_markState x ≤ maxMark) : laws_heldState (mkF_markState x k).1 k = some (mkF_markState x k).2 := by
  unfold cntF_markState maxMark at hb
  unfold laws_heldState mkF_markState
  have h0 := markHeap_snd x.heap k (by omega) (by unfold maxMark; omega)
  have w0 := heldHeap_ok (x := x.heap) (k := k) hl (by omega) (by unfold maxMark; omega)
  have n0 : ltI (mkF_markHeap x.heap k).2 0 = false := by simp only [ltI, decide_eq_false_iff_not]; omega
  simp only [cond_false, Option.bind_some, w0, n0]
end Go.Ev


namespace Go.Ev
open Wf (wf)
open Sm (sm lg)
theorem cnt_strs' (xs : List ByteArray) : cntF_markStringS xs ≤ xs.length * 1 := totC_le _ 1 xs fun x _ => Nat.le_refl _
theorem cnt_edges' (xs : List TEdge) : cntF_markEdgeS xs ≤ xs.length * 5 := totC_le _ 5 xs fun x _ => Nat.le_refl _
theorem cnt_ints' (xs : List Int) : cntF_markIntS xs ≤ xs.length * 1 := totC_le _ 1 xs fun x _ => Nat.le_refl _
theorem tiny_lg {s : TState} (h : tinyS s) : lg s := ⟨lg_ints (by have := h.1; omega), lg_ints (by have := h.2; omega)⟩
theorem law_Follow {p : TProgram} {h : THeap} {edges : List Int} (hp : wf p) (hh : wf h) (he : wf edges) : laws_FnExactFollow p h edges = some true := by
  unfold laws_FnExactFollow
  rw [cond_lt]
  by_cases hle : 1048576 < (edges.length : Int)
  · rw [if_pos hle]
  · rw [if_neg hle]
    obtain ⟨n, h1, h2, h3, h4⟩ := szProgram_ok hp (left := 1048576) (by omega)
    rw [h1, Option.bind_some, cond_lt]
    by_cases hn : n < 0
    · rw [if_pos hn]
    · rw [if_neg hn]
      have s1 := h3 (by omega)
      obtain ⟨m, k1, k2, k3, k4⟩ := szHeap_ok hh (left := n) (by omega)
      rw [k1, Option.bind_some, cond_lt]
      by_cases hm : m < 0
      · rw [if_pos hm]
      · rw [if_neg hm]
        have s2 := k3 (by omega)
        have s3 : sm edges := ⟨by omega, fun _ _ => trivial⟩
        obtain ⟨r, e1, e2, ht, _⟩ := follow_both p h edges (smP_of s1) (by have := s3.1; unfold small; omega)
        have hl := tiny_lg ht
        have b1 := cnt_strs' p.vars
        have b2 := cnt_edges' p.edges
        have b3 := cnt_ints' h.vars
        have b4 := cnt_ints' h.next
        have b5 := cnt_ints' edges
        have b6 := cnt_ints' r.1.heap.vars
        have b7 := cnt_ints' r.1.heap.next
        have z1 := s1.1.1
        have z2 := s1.2.1
        have z3 := s2.1.1
        have z4 := s2.2.1
        have z5 := s3.1
        have z6 := ht.1
        have z7 := ht.2
        have m1 := markProgram_snd p 1 (by omega) (by unfold cntF_markProgram maxMark; omega)
        have m2 := markHeap_snd h (mkF_markProgram p 1).2 (by rw [m1]; omega) (by rw [m1]; unfold cntF_markProgram cntF_markHeap maxMark; omega)
        have m3 := markIntS_snd edges (mkF_markHeap h (mkF_markProgram p 1).2).2 (by rw [m2, m1]; omega) (by rw [m2, m1]; unfold cntF_markProgram cntF_markHeap maxMark; omega)
        have m4 := markState_snd r.1 1 (by omega) (by unfold cntF_markState cntF_markHeap maxMark; omega)
        have w4 := heldState_ok hl (k := 1) (by omega) (by unfold cntF_markState cntF_markHeap maxMark; omega)
        have q3 : ltI (zaj edges (mkF_markHeap h (mkF_markProgram p 1).2).2).2 0 = false := by simp only [ltI, decide_eq_false_iff_not]; rw [m3, m2, m1]; omega
        have q4 : ltI (mkF_markState r.1 1).2 0 = false := by simp only [ltI, decide_eq_false_iff_not]; rw [m4]; omega
        simp [toProgram_ok s1, toHeap_ok s2, toIntS_ok s3, e1, e2, neI, eqState_ok hl, eqProgram_ok (sm_lg s1), eqHeap_ok (sm_lg s2), eqIntS_ok (sm_lg s3), markO_some (sm_lg s1), markO_some (sm_lg s2), markO_some (sm_lg s3), markO_some hl, q3, q4, w4]
end Go.Ev


namespace Go.Proofs
open Go.Ev
@[simp] theorem ti_3 : ti Tryz.prog 3 = some { size := 1, bytes := 8, agg := false, elem := none, flds := [], zero := [.int .i64 0] } := by kernel_rfl
@[simp] theorem ti_9 : ti Tryz.prog 9 = some { size := 1, bytes := 16, agg := false, elem := none, flds := [], zero := [.string ByteArray.empty] } := by kernel_rfl
attribute [simp] Tryz.underlying9
@[simp] theorem ti_22 : ti Tryz.prog 22 = some { size := 1, bytes := 24, agg := false, elem := some 9, flds := [], zero := [.slice none 0 0] } := by kernel_rfl
@[simp] theorem ti_23 : ti Tryz.prog 23 = some { size := 1, bytes := 24, agg := false, elem := some 110, flds := [], zero := [.slice none 0 0] } := by kernel_rfl
@[simp] theorem ti_25 : ti Tryz.prog 25 = some { size := 3, bytes := 56, agg := true, elem := none, flds := [(0, 22), (1, 3), (2, 23)], zero := [.slice none 0 0, .int .i64 0, .slice none 0 0] } := by kernel_rfl
@[simp] theorem ti_26 : ti Tryz.prog 26 = some { size := 1, bytes := 24, agg := false, elem := some 3, flds := [], zero := [.slice none 0 0] } := by kernel_rfl
@[simp] theorem ti_28 : ti Tryz.prog 28 = some { size := 2, bytes := 48, agg := true, elem := none, flds := [(0, 26), (1, 26)], zero := [.slice none 0 0, .slice none 0 0] } := by kernel_rfl
@[simp] theorem ti_31 : ti Tryz.prog 31 = some { size := 2, bytes := 48, agg := true, elem := none, flds := [(0, 26), (1, 26)], zero := [.slice none 0 0, .slice none 0 0] } := by kernel_rfl
@[simp] theorem ti_33 : ti Tryz.prog 33 = some { size := 3, bytes := 56, agg := true, elem := none, flds := [(0, 3), (1, 31)], zero := [.int .i64 0, .slice none 0 0, .slice none 0 0] } := by kernel_rfl
@[simp] theorem ti_36 : ti Tryz.prog 36 = some { size := 1, bytes := 24, agg := false, elem := some 85, flds := [], zero := [.slice none 0 0] } := by kernel_rfl
@[simp] theorem ti_38 : ti Tryz.prog 38 = some { size := 3, bytes := 56, agg := true, elem := none, flds := [(0, 22), (1, 3), (2, 36)], zero := [.slice none 0 0, .int .i64 0, .slice none 0 0] } := by kernel_rfl
@[simp] theorem ti_83 : ti Tryz.prog 83 = some { size := 3, bytes := 40, agg := true, elem := none, flds := [(0, 3), (1, 9), (2, 9)], zero := [.int .i64 0, .string ByteArray.empty, .string ByteArray.empty] } := by kernel_rfl
@[simp] theorem ti_85 : ti Tryz.prog 85 = some { size := 5, bytes := 56, agg := true, elem := none, flds := [(0, 3), (1, 3), (2, 83)], zero := [.int .i64 0, .int .i64 0, .int .i64 0, .string ByteArray.empty, .string ByteArray.empty] } := by kernel_rfl
@[simp] theorem ti_108 : ti Tryz.prog 108 = some { size := 3, bytes := 40, agg := true, elem := none, flds := [(0, 3), (1, 9), (2, 9)], zero := [.int .i64 0, .string ByteArray.empty, .string ByteArray.empty] } := by kernel_rfl
@[simp] theorem ti_110 : ti Tryz.prog 110 = some { size := 5, bytes := 56, agg := true, elem := none, flds := [(0, 3), (1, 3), (2, 108)], zero := [.int .i64 0, .int .i64 0, .int .i64 0, .string ByteArray.empty, .string ByteArray.empty] } := by kernel_rfl
@[simp] theorem ti_158 : ti Tryz.prog 158 = some { size := 1, bytes := 24, agg := false, elem := some 26, flds := [], zero := [.slice none 0 0] } := by kernel_rfl
end Go.Proofs


namespace Go.Proofs
open Go.Ev Go.RowKit Go.Lib Go.Sort
theorem INFO3 : (Tryz.prog.info? 3).map (fun i => (i.zero, i.size, i.bytes)) = some (some (.int .i64 0), 1, 8) := by kernel_rfl
set_option maxHeartbeats 4000000 in
set_option maxRecDepth 100000 in
theorem grow155_zero (w : World) : Calls Tryz.prog 155 #[.slice none 0 0, .int .i64 0] w fun e w' => e = .returned (.slice none 0 0) ∧ w' = w := by
  have u26 : ∀ w, Sem.run Tryz.prog (underlying 26) w = .ok (TypeDesc.slice 3) w := run_underlying Tryz.underlying26
  go_enter Tryz.func155, Tryz.ntmps155
  go_wp2
  go_ret
  exact ⟨rfl, rfl⟩

set_option maxHeartbeats 4000000 in
set_option maxRecDepth 100000 in
theorem grow155_pos (n : Nat) (w : World) (h0 : 0 < n) (hbig : n * 8 ≤ 140737488355328) :
    Calls Tryz.prog 155 #[.slice none 0 0, .int .i64 n] w fun e w' => ∃ v, e = .returned v ∧ w'.ownsRow w.heap.size 3 1 v 0 [] ∧ Below w.heap.size w w' := by
  obtain ⟨i0, hi, hz0, hz1, hz2⟩ := info_parts INFO3
  have u26 : ∀ w, Sem.run Tryz.prog (underlying 26) w = .ok (TypeDesc.slice 3) w := run_underlying Tryz.underlying26
  have hrz := fun ty => run_append_grow_zeros (P := Tryz.prog) w 26 3 ty 3 i0 (.int .i64 0) .i64 .i64 Tryz.underlying26 Tryz.underlying3 hi hz0 none 0 0 [] (run_firstCells_none w.drew i0.size 0 0 0) n h0 (by omega) (by omega) (by omega) (by rw [hz2]; omega)
    (by rw [hz2]; exact growslice_fits (by omega) (by omega))
  have hGn : 0 + n ≤ grownCap w (0 + n) 0 3 := grownCap_ge w _ _ _
  have hGm := grownCap_le_maxLen w (0 + n) 0 3 (by unfold maxLen; omega)
  obtain ⟨G, hG⟩ : ∃ G, G = grownCap w (0 + n) 0 3 := ⟨_, rfl⟩
  rw [← hG] at hrz hGn hGm
  have A : Aside (G ≤ maxLen) := hGm
  clear hG hGm
  simp only [Nat.zero_add] at hrz hGn
  have h1 : ¬ ((n : Int) < 0) := by omega
  have h2 : ((n : Int) > 0) := by omega
  have h3 : wrap64 (n : Int) = n := by unfold wrap64; omega
  have h4 : G ≤ 9223372036854775807 := by have := A.out; unfold maxLen at this; omega
  have B : Aside (i0.size = 1) := hz1
  clear hz1 hz2
  go_enter Tryz.func155, Tryz.ntmps155
  go_wp2_with (at_builtin; refine Lib.wpList_append_run _ rfl _ _ _ _ rfl _ _ rfl rfl _ _ (hrz _) ?_)
  all_goals (go_ret; refine ⟨_, rfl, ⟨rfl, .inr ⟨_, _, _, rfl, Nat.le_refl _, heap_new _ _, Nat.zero_le _, A.out, ?_, by simp⟩⟩, rfl, rfl, rfl, by (show w.heap.size ≤ (w.heap.push _).size); rw [Array.size_push]; omega, fun k hk => heap_old _ _ hk⟩)
  all_goals (simp [Builtin.zeroCells]; omega)

theorem grow155 (n : Nat) (w : World) (hbig : n * 8 ≤ 140737488355328) :
    Calls Tryz.prog 155 #[.slice none 0 0, .int .i64 n] w fun e w' => ∃ v, e = .returned v ∧ w'.ownsRow w.heap.size 3 1 v 0 [] ∧ (n = 0 → v = .slice none 0 0) ∧ Below w.heap.size w w' := by
  rcases Nat.eq_zero_or_pos n with rfl | hn
  · refine (grow155_zero w).mono fun e w' h => ?_
    obtain ⟨rfl, rfl⟩ := h
    exact ⟨_, rfl, ⟨rfl, .inl ⟨rfl, rfl⟩⟩, fun _ => rfl, Below.refl _ _⟩
  · refine (grow155_pos n w hn hbig).mono fun e w' h => ?_
    obtain ⟨v, rfl, h1, h2⟩ := h
    exact ⟨v, rfl, h1, fun h0 => by omega, h2⟩

set_option maxHeartbeats 8000000 in
set_option maxRecDepth 1000000 in
theorem concat138 (xa : Option Addr) (xb xo N xc : Nat) (ra : Nat → Option Addr) (nn rc : Nat → Nat) (ne : Nat → List Value) (w : World) (hxa : 0 < N → xa = some ⟨xb, xo, none⟩) (hN : Hid (N ≤ maxLen))
    (hc : Aside (∀ j, j < N → w.cell? ⟨xb, xo + j, none⟩ = some (.slice (ra j) (nn j) (rc j)))) (hr : Aside (∀ j, j < N → RowAt w 1 (ra j) (nn j) (ne j))) (hbig : Aside (tot nn N * 8 ≤ 140737488355328)) :
    Calls Tryz.prog 138 #[.slice xa N xc] w fun e w' => ∃ v, e = .returned v ∧ w'.ownsRow w.heap.size 3 1 v (tot nn N) (cat ne N) ∧ (tot nn N = 0 → v = .slice none 0 0) ∧ Below w.heap.size w w' := by
  obtain ⟨i0, hi, hz0, hz1, hz2⟩ := info_parts INFO3
  have B : Aside (i0.size = 1 ∧ i0.bytes = 8) := ⟨hz1, hz2⟩
  clear hz1 hz2
  go_enter Tryz.func138, Tryz.ntmps138
  go_wp2
  go_loopg [3, 11] N (fun k s c wr => ∃ j, k = N - j ∧ j ≤ N ∧ s = .int .i64 (tot nn j : Nat) ∧ c = .int .i64 j ∧ w = wr)
  case atStart => exact ⟨0, rfl, Nat.zero_le _, rfl, rfl, rfl⟩
  case round =>
    obtain ⟨j, hk, hj, rfl, rfl, rfl⟩ := hrel
    by_cases hlt : j < N
    · obtain rfl := hxa (by omega)
      have hx := hc.out j hlt
      have hlt' : (j : Int) < (N : Int) := by omega
      have hw : wrap64 ((tot nn j : Int) + (nn j : Int)) = ((tot nn (j + 1) : Nat) : Int) := by
        have := tot_mono nn (i := j + 1) (j := N) (by omega)
        have := hbig.out
        exact wrap_add (by simp only [tot] at *; unfold maxLen; omega)
      have hneg : ¬ (((tot nn (j + 1) : Nat) : Int) < 0) := by omega
      go_wp2
      go_roundg (N - (j + 1))
      case measure => omega
      case rel => exact ⟨j + 1, rfl, by omega, rfl, by simp; exact wrap_add (a := j) (b := 1) (by have := hN.out; omega), rfl⟩
    · obtain rfl : j = N := by omega
      have hg := grow155 (tot nn j) w hbig.out
      go_wp2_with (go_at_call 155; refine hg.mono ?_; rintro e w' ⟨v, rfl, hown, hnil, hbel⟩)
      clear hg
      go_loopg [6, 27] j (fun k d c wq => ∃ i, k = j - i ∧ i ≤ j ∧ c = .int .i64 i ∧ wq.ownsRow w.heap.size 3 1 d (tot nn i) (cat ne i) ∧ (tot nn j = 0 → d = .slice none 0 0) ∧ Below w.heap.size w wq)
      case atStart => exact ⟨0, rfl, Nat.zero_le _, rfl, hown, hnil, hbel⟩
      case round =>
        obtain ⟨i, hk, hi2, rfl, hown2, hnil2, hbel2⟩ := hrel
        by_cases hlt2 : i < j
        · obtain rfl := hxa (by omega)
          have hx : wr.cell? ⟨xb, xo + i, none⟩ = some (.slice (ra i) (nn i) (rc i)) := by
            have := hc.out i hlt2
            rw [← this]
            exact World.cell?_of_block (hbel2.block xb (World.block_lt_of_cell? _ _ this))
          obtain ⟨v2, w2, hrun, hown3, hgr, hnil3⟩ := run_append_rowAt (P := Tryz.prog) w.heap.size 26 26 3 i0 (.int .i64 0) 1 8 Tryz.underlying26 hi hz0 B.out.1 B.out.2 rfl (by decide) _ _ _ hown2 (ra i) (nn i) (rc i) (ne i) (hr.out i hlt2) hbel2.block
            (by have := tot_mono nn (i := i + 1) (j := j) (by omega); have := hbig.out; simp only [tot] at *; unfold maxLen; omega) (by have := tot_mono nn (i := i + 1) (j := j) (by omega); have := hbig.out; simp only [tot] at *; omega) hbel2.size
          have hbel3 : Below w.heap.size w w2 := by
            refine hbel2.trans ⟨hgr.os, hgr.tape, hgr.output, hgr.size, fun k hk => hgr.block k (Nat.lt_of_lt_of_le hk hbel2.size) fun he => ?_⟩
            rcases hown2.2 with ⟨h1, _⟩ | ⟨g, cap, cur, h1, h2, _⟩
            · rw [h1] at he; simp [Value.ownBlock] at he
            · rw [h1] at he; simp [Value.ownBlock] at he; omega
          have hnil4 : tot nn j = 0 → v2 = .slice none 0 0 := fun h0 => by
            have := tot_mono nn (i := i + 1) (j := j) (by omega)
            rw [hnil3 (by simp only [tot] at *; omega), hnil2 h0]
          have hlt3 : (i : Int) < (j : Int) := by omega
          have H : Aside (w2.ownsRow w.heap.size 3 1 v2 (tot nn (i + 1)) (cat ne (i + 1)) ∧ (tot nn j = 0 → v2 = .slice none 0 0) ∧ Below w.heap.size w w2) := ⟨hown3, hnil4, hbel3⟩
          clear hown3 hnil4 hbel3 hnil3 hgr hown2 hnil2 hbel2 hown hnil hbel
          go_wp2_with (at_builtin; refine Lib.wpList_append_run _ rfl _ _ _ _ rfl _ _ rfl rfl _ _ hrun ?_)
          go_roundg (j - (i + 1))
          case measure => omega
          case rel => exact ⟨i + 1, rfl, by omega, by simp; exact wrap_add (a := i) (b := 1) (by have := hN.out; omega), H.out.1, H.out.2⟩
        · obtain rfl : i = j := by omega
          go_wp2
          go_ret
          exact ⟨_, rfl, hown2, hnil2, hbel2⟩

noncomputable def C138 : List AV → Option AV := specP (X := List (List Int) × Unit) fun x => slices_Concat_int x.1
theorem C138_eq {s : List (List Int)} {y} (h : slices_Concat_int s = some y) : C138 [av .shr s] = some (Res.res y) := zag (X := List (List Int) × Unit) (F := fun x => slices_Concat_int x.1) (x := (s, ())) h
theorem pc138 : PC Tryz.prog 138 C138 :=
  pc_concat (α := Int) (e := 3) (bytes := 8) ⟨Tryz.f138, Tryz.func138, by kernel_rfl, by kernel_rfl⟩
    fun xa xb xo N xc ra nn rc ne w h1 h2 h3 h4 h5 => concat138 xa xb xo N xc ra nn rc ne w h1 h2 h3 h4 h5

set_option maxHeartbeats 2000000 in
set_option maxRecDepth 100000 in
theorem clone97_nil (n c : Nat) (w : World) : Calls Tryz.prog 97 #[.slice none n c] w fun e w' => e = .returned (.slice none 0 0) ∧ w' = w := by
  have q26 : ∀ (w : World) (a : Option Addr) (n c n' c' : Nat), (binOp .eql 26 (.slice a n c) (.slice none n' c')).run Tryz.prog w = .ok (.bool a.isNone) w := fun w a n c n' c' => Lib.run_eql_slice_nil w _ _ a n c n' c' Tryz.underlying26
  go_enter Tryz.func97, Tryz.ntmps97
  go_wp2
  go_ret
  exact ⟨rfl, rfl⟩

set_option maxHeartbeats 2000000 in
set_option maxRecDepth 100000 in
theorem clone97_zero (a : Addr) (c : Nat) (w : World) :
    Calls Tryz.prog 97 #[.slice (some a) 0 c] w fun e w' => ∃ b, e = .returned (.slice b 0 0) ∧ w' = w.alloc (.cells #[] 3) := by
  have q26 : ∀ (w : World) (a : Option Addr) (n c n' c' : Nat), (binOp .eql 26 (.slice a n c) (.slice none n' c')).run Tryz.prog w = .ok (.bool a.isNone) w := fun w a n c n' c' => Lib.run_eql_slice_nil w _ _ a n c n' c' Tryz.underlying26
  go_enter Tryz.func97, Tryz.ntmps97
  go_wp2
  go_ret
  exact ⟨_, rfl, rfl⟩

set_option maxHeartbeats 2000000 in
set_option maxRecDepth 100000 in
theorem clone97_row (b off n c : Nat) (vs : List Value) (w : World) (hlen : vs.length = n * 1) (hbig : n * 8 ≤ 140737488355328) (hsc : ∀ u ∈ vs, scal u = true) (hc : ∀ j u, vs[j]? = some u → w.cell? ⟨b, off + j, none⟩ = some u) :
    Calls Tryz.prog 97 #[.slice (some ⟨b, off, none⟩) n c] w fun e w' => ∃ v', e = .returned v' ∧ w'.ownsRow w.heap.size 3 1 v' n vs ∧ Below w.heap.size w w' := by
  obtain ⟨i0, hi, hz0, hz1, hz2⟩ := info_parts INFO3
  have q26 : ∀ (w : World) (a : Option Addr) (n c n' c' : Nat), (binOp .eql 26 (.slice a n c) (.slice none n' c')).run Tryz.prog w = .ok (.bool a.isNone) w := fun w a n c n' c' => Lib.run_eql_slice_nil w _ _ a n c n' c' Tryz.underlying26
  have u26 : ∀ w, Sem.run Tryz.prog (underlying 26) w = .ok (TypeDesc.slice 3) w := run_underlying Tryz.underlying26
  have A : Aside (∀ j u, vs[j]? = some u → w.cell? ⟨b, off + j, none⟩ = some u) := hc
  clear hc
  go_enter Tryz.func97, Tryz.ntmps97
  go_wp2_with (at_builtin; refine wpList_append_own _ rfl _ _ 26 rfl w.heap.size 3 i0 (.int .i64 0) 1 8 Tryz.underlying26 hi hz0 hz1 hz2 rfl (by decide) _ _ _ rfl (World.ownsRow_made w #[] 0 (Nat.le_refl _) (Nat.zero_le _) rfl) ⟨b, off, none⟩ n c vs rfl ?qc1 ?qc2 ?qc3 ?qc4 ?qc5 ?qc6 ?_)
  case qc1 => exact hlen
  case qc2 =>
    intro j u hj
    rw [Addr.add_lit]
    exact Lib.cell?_alloc_some _ (A.out j u hj)
  case qc3 =>
    intro u hu
    have := hsc u hu
    cases u <;> first | rfl | cases this
  case qc4 => unfold maxLen; omega
  case qc5 => omega
  case qc6 => simp
  intro v' w1 hown hgrow hnil
  go_wp2
  go_ret
  refine ⟨_, rfl, by simpa using hown, ?_⟩
  refine ⟨hgrow.os, hgrow.tape, hgrow.output, ?_, fun k hk => ?_⟩
  · have := hgrow.size; rw [World.size_alloc] at this; omega
  · rw [hgrow.block k (by rw [World.size_alloc]; omega) (by simp [Value.ownBlock]; omega), heap_old w _ hk]

noncomputable def C97 : List AV → Option AV := specP (X := List Int × Unit) fun x => slices_Clone_int x.1
theorem C97_eq {s : List Int} {y} (h : slices_Clone_int s = some y) : C97 [av .shr s] = some (Res.res y) := zag (X := List Int × Unit) (F := fun x => slices_Clone_int x.1) (x := (s, ())) h
theorem pc97 : PC Tryz.prog 97 C97 :=
  pc_clone (α := Int) (e := 3) (bytes := 8) ⟨Tryz.f97, Tryz.func97, by kernel_rfl, by kernel_rfl⟩ clone97_nil
    (fun a c w => (clone97_zero a c w).mono fun e w' h => by
      obtain ⟨b, rfl, rfl⟩ := h
      exact ⟨b, rfl, rfl, rfl, rfl, by rw [World.size_alloc]; omega, fun k hk => heap_old w _ hk⟩)
    clone97_row

theorem sub_wrap (x : Int) : subI x 1 = wrap64 (x - 1) := Go.IntWalk.i64_left _
theorem zero3 (w : World) : (zeroValue 3).run Tryz.prog w = .ok (.int .i64 0) w := by kernel_rfl

set_option maxHeartbeats 4000000 in
set_option maxRecDepth 1000000 in
theorem del156 (blk cap i j : Nat) (d : Array Int) (w : World) (hH : Holds (Value.int .i64) w blk 0 d) (hcap : d.size ≤ cap) (hij : i < j) (hj : j ≤ d.size) :
    Calls Tryz.prog 156 #[.slice (some ⟨blk, 0, none⟩) d.size cap, .int .i64 i, .int .i64 j] w fun e w' => e = .returned (.slice (some ⟨blk, 0, none⟩) (d.size - (j - i)) cap) ∧
      ∃ q, w' = putRow (Value.int .i64) (Sort.ahead w q) blk 0 (d.toList.take i ++ d.toList.drop j ++ List.replicate (j - i) 0).toArray := by
  obtain ⟨i0, hi0, hz0, hz1, hz2⟩ := info_parts INFO3
  have t26 := Tryz.underlying26
  have mixed : Tryz.prog.follows .mixedOrders = true := by kernel_rfl
  have u26 : ∀ w, Sem.run Tryz.prog (underlying 26) w = .ok (TypeDesc.slice 3) w := run_underlying Tryz.underlying26
  obtain ⟨news, hnews⟩ : ∃ news, news = (d.toList.drop j).map (Value.int .i64) := ⟨_, rfl⟩
  have hlen : news.length = d.size - j := by rw [hnews]; simp
  have hget : ∀ t, t < d.size - j → news[t]? = some (.int .i64 d[j + t]!) := by
    intro t ht
    rw [hnews, List.getElem?_map, List.getElem?_drop, Array.getElem?_toList, getElem!_pos d (j + t) (by omega), Array.getElem?_eq_getElem (by omega)]
    rfl
  obtain ⟨A, hA, hsrc⟩ : ∃ A : Addr, (if cap = j then some (⟨blk, 0, none⟩ : Addr) else some ⟨blk, j, none⟩) = some A ∧ Hid (∀ t u, news[t]? = some u → w.drew.cell? (A.add t) = some u) := by
    by_cases h : cap = j
    · refine ⟨⟨blk, 0, none⟩, by simp [h], fun t u hu => ?_⟩
      have h0 : news.length = 0 := by rw [hlen]; omega
      rw [List.length_eq_zero_iff.1 h0] at hu
      simp at hu
    · refine ⟨⟨blk, j, none⟩, by simp [h], fun t u hu => ?_⟩
      have ht : t < d.size - j := by
        have := (List.getElem?_eq_some_iff.1 hu).1
        rwa [hlen] at this
      rw [hget t ht] at hu
      have := (hH (j + t) (by omega)).1
      rw [Nat.zero_add] at this
      rw [Addr.add_lit]
      exact this.trans hu
  have s1 : Hid (news.length = (d.size - j) * 1) := by rw [Nat.mul_one]; exact hlen
  have s2 : Hid (∀ u ∈ news, u.oneCell' = true) := by
    intro u hu
    rw [hnews] at hu
    obtain ⟨x, _, rfl⟩ := List.mem_map.1 hu
    rfl
  have s3 : Hid (∀ t, t < news.length → (w.drew.cell? ⟨blk, 0 + i * 1 + t, none⟩).isSome = true ∧ w.drew.frozen? ⟨blk, 0 + i * 1 + t, none⟩ = false) := by
    intro t ht
    rw [hlen] at ht
    rw [Nat.mul_one, Nat.add_assoc]
    exact ⟨by show (w.cell? _).isSome = true; rw [(hH (i + t) (by omega)).1]; rfl, (hH (i + t) (by omega)).2⟩
  obtain ⟨W1, hW1⟩ : ∃ W1, W1 = w.drew.setCells blk (0 + i * 1) news := ⟨_, rfl⟩
  have hW1' : W1 = putRow (Value.int .i64) (Sort.ahead w 1) blk 0 (lay d i (d.toList.drop j)) := by
    rw [hW1, hnews, Nat.mul_one, ← putRow_setCells (Value.int .i64) (Sort.ahead w 1) blk 0 _ d i (by simp; omega), putRow_self (Value.int .i64) (Sort.ahead w 1) blk 0 d (holds_ahead (Value.int .i64) w 1 blk 0 d hH)]
    rfl
  have hH1 : Holds (Value.int .i64) W1 blk 0 (lay d i (d.toList.drop j)) := by rw [hW1']; exact holds_putRow (Value.int .i64) _ blk 0 d _ (holds_ahead (Value.int .i64) w 1 blk 0 d hH) (lay_size _ _ _)
  have hcl : ∀ ty, (Builtin.clear_ #[26] ty #[.slice (some ⟨blk, i + (d.size - j), none⟩) (d.size - (i + (d.size - j))) (cap - (i + (d.size - j)))]).run Tryz.prog W1 = .ok (.tuple #[]) (W1.setCells blk (i + (d.size - j)) (List.replicate (d.size - (i + (d.size - j))) (.int .i64 0))) :=
    fun ty => Lib.run_clear_slice W1 _ _ ty _ t26 zero3 rfl rfl blk (i + (d.size - j)) _ _ (by omega) (fun t ht => by have := (hH1 (i + (d.size - j) + t) (by rw [lay_size]; omega)).1; rw [Nat.zero_add] at this; rw [this]; rfl) (fun t ht => by have := (hH1 (i + (d.size - j) + t) (by rw [lay_size]; omega)).2; rwa [Nat.zero_add] at this)
  have X : Aside (W1 = putRow (Value.int .i64) (Sort.ahead w 1) blk 0 (lay d i (d.toList.drop j))) := hW1'
  have hW : Hid (W1 = w.drew.setCells blk (0 + i * 1) news) := hW1
  have hic : i ≤ cap := by omega
  have hjc : j ≤ cap := by omega
  have hq : ¬ ((i : Int) = (j : Int)) := by omega
  clear hW1 hW1' hH1 hH hget hnews hlen
  go_enter Tryz.func156, Tryz.ntmps156
  go_wp2_with fail
  go_region_law_o (refine step_append_room rfl (.tmp 22) (.tmp 25) 26 rfl 3 i0 1 t26 hi0 hz1 blk 0 i cap (by simp [Act.eval, Act.put]) A (d.size - j) (cap - j) news (by simp [Act.eval, Act.put]) s1.out hsrc.out s2.out (by omega) s3.out ?_; rw [← hW.out])
  go_wp2
  go_ret
  refine ⟨by rw [show d.size - (j - i) = i + (d.size - j) by omega]; rfl, 1, ?_⟩
  rw [← delete_arr d i j 0 (by omega) hj, ← putRow_setCells (Value.int .i64) _ blk 0 _ _ (i + (d.size - j)) (by rw [lay_size]; simp; omega), ← X.out, List.map_replicate, show d.size - (i + (d.size - j)) = j - i by omega]
  simp


set_option maxHeartbeats 4000000 in
set_option maxRecDepth 1000000 in
theorem without143 (d1 d2 : Array Int) (n1 n2 c c1 c2 b1 b2 : Nat) (w : World) (e1 : d1.size = n1) (e2 : d2.size = n2) (hx : n1 ≤ 1000000) (hy : n2 ≤ 1000000) (hc : c < n2) (hne : b1 ≠ b2) (hb1 : b1 < w.heap.size) (hb2 : b2 < w.heap.size)
    (H1 : Holds (Value.int .i64) w b1 0 d1) (H2 : Holds (Value.int .i64) w b2 0 d2) (hc1 : n1 ≤ c1) (hc2 : n2 ≤ c2) :
    Calls Tryz.prog 143 #[.agg #[.slice (some ⟨b1, 0, none⟩) n1 c1, .slice (some ⟨b2, 0, none⟩) n2 c2], .int .i64 c] w fun e w' =>
      e = .returned (.agg #[.slice (some ⟨b1, 0, none⟩) n1 c1, .slice (some ⟨b2, 0, none⟩) (n2 - 1) c2]) ∧ Two w w' b1 b2 (d1.toList.map (decI c)) ((d2.toList.take c ++ d2.toList.drop (c + 1)).map (decI c)) := by
  have u26 : ∀ w, Sem.run Tryz.prog (underlying 26) w = .ok (TypeDesc.slice 3) w := run_underlying Tryz.underlying26
  have u112 : ∀ w, Sem.run Tryz.prog (underlying 158) w = .ok (TypeDesc.slice 26) w := run_underlying Tryz.underlying158
  have hdel : Hid (∀ W, Holds (Value.int .i64) W b2 0 d2 → Calls Tryz.prog 156 #[.slice (some ⟨b2, 0, none⟩) n2 c2, .int .i64 c, .int .i64 ((c : Int) + 1)] W fun e w' => e = .returned (.slice (some ⟨b2, 0, none⟩) (n2 - 1) c2) ∧
      ∃ q, w' = putRow (Value.int .i64) (Sort.ahead W q) b2 0 (d2.toList.take c ++ d2.toList.drop (c + 1) ++ [0]).toArray) := by
    intro W hW
    have := del156 b2 c2 c (c + 1) d2 W hW (by omega) (by omega) (by omega)
    rw [e2, show c + 1 - c = 1 by omega] at this
    simpa using this
  have HA : Hid (Holds (Value.int .i64) w b1 0 d1 ∧ Holds (Value.int .i64) w b2 0 d2) := ⟨H1, H2⟩
  have HB : Hid (d1.size = n1 ∧ d2.size = n2) := ⟨e1, e2⟩
  have w1 : wrap64 ((c : Int) + 1) = c + 1 := by unfold wrap64; omega
  clear H1 H2 e1 e2
  have HW0 : Hid (Holds (Value.int .i64) ((w.alloc (.cells #[.slice (some ⟨b1, 0, none⟩) n1 c1, .slice (some ⟨b2, 0, none⟩) n2 c2] 31)).alloc (.cells #[.slice none 0 0, .slice none 0 0] 31)) b2 0 d2) := by
    intro j hj
    have := HA.out.2 j hj
    have e : ((w.alloc (.cells #[.slice (some ⟨b1, 0, none⟩) n1 c1, .slice (some ⟨b2, 0, none⟩) n2 c2] 31)).alloc (.cells #[.slice none 0 0, .slice none 0 0] 31)).heap[b2]? = w.heap[b2]? := by rw [heapA _ _ (by simp; omega), heapA _ _ hb2]
    unfold World.cell? World.frozen? at *
    simp only [e] at *
    exact this
  go_enter Tryz.func143, Tryz.ntmps143
  go_wp2_with fail
  refine (hdel.out _ HW0.out).mono ?_
  rintro e W ⟨rfl, q, hW⟩
  obtain ⟨⟨k0, k1, k2, k3⟩, hJ⟩ := WJ.start (s2' := .slice (some ⟨b2, 0, none⟩) (n2 - 1) c2) (ty' := 26) hne hb1 hb2 HA.out.1 HA.out.2 (by simp [HB.out.2]; omega) hW
  have J0 : Hid _ := hJ
  clear hJ hW HW0 hdel
  obtain ⟨D2, hD⟩ : ∃ D2, D2 = (d2.toList.take c ++ d2.toList.drop (c + 1) ++ [0]).toArray := ⟨_, rfl⟩
  rw [← hD] at J0
  have HD : Hid (D2.size = n2) := by show D2.size = n2; rw [hD]; simp [HB.out.2]; omega
  have HE : Hid (D2 = (d2.toList.take c ++ d2.toList.drop (c + 1) ++ [0]).toArray) := hD
  clear hD
  have hn : n2 - 1 ≤ c2 := by omega
  go_wp2
  clear k0 k1 k2 k3
  go_loopg [22] 2 (fun k s22 wr => ∃ j : Nat, k = 2 - j ∧ j ≤ 2 ∧ s22 = .int .i64 j ∧ WJ w wr b1 b2 w.heap.size (w.heap.size + 1) (w.heap.size + 2) (.slice (some ⟨b1, 0, none⟩) n1 c1) (.slice (some ⟨b2, 0, none⟩) (n2 - 1) c2) (decTo c d1 (if 1 ≤ j then n1 else 0)) (decTo c D2 (if 2 ≤ j then n2 - 1 else 0)))
  case atStart => exact ⟨0, rfl, by omega, rfl, by simpa [decTo_zero] using J0.out⟩
  clear J0
  obtain ⟨j, hk, hj, rfl, hJ⟩ := hrel
  have hcase : j = 0 ∨ j = 1 ∨ j = 2 := by omega
  rcases hcase with rfl | rfl | rfl
  · have JA : Hid (WJ w wr b1 b2 w.heap.size (w.heap.size + 1) (w.heap.size + 2) (.slice (some ⟨b1, 0, none⟩) n1 c1) (.slice (some ⟨b2, 0, none⟩) (n2 - 1) c2) d1 D2) := by unfold Hid; simpa [decTo_zero] using hJ
    have g0 := hJ.hg0
    clear hJ
    go_wp2
    clear g0
    go_loopg [28] n1 (fun k s28 wq => ∃ i : Nat, k = n1 - i ∧ i ≤ n1 ∧ s28 = .int .i64 i ∧ WJ w wq b1 b2 w.heap.size (w.heap.size + 1) (w.heap.size + 2) (.slice (some ⟨b1, 0, none⟩) n1 c1) (.slice (some ⟨b2, 0, none⟩) (n2 - 1) c2) (decTo c d1 i) D2)
    case atStart => exact ⟨0, rfl, Nat.zero_le _, rfl, by rw [decTo_zero]; exact JA.out⟩
    case round =>
      obtain ⟨i, hk2, hi, rfl, hQ⟩ := hrel
      have JQ : Hid _ := hQ
      clear hQ
      by_cases hlt : i < n1
      · obtain ⟨p1, p2⟩ := JQ.out.h1 i (by rw [decTo_size, HB.out.1]; omega)
        rw [decTo_at _ _ _ (by rw [HB.out.1]; omega)] at p1
        obtain ⟨x, hx⟩ : ∃ x, x = d1[i]! := ⟨_, rfl⟩
        rw [← hx] at p1
        rw [Nat.zero_add] at p1 p2
        have HX : Hid (x = d1[i]!) := hx
        clear hx
        have hlt' : (i : Int) < (n1 : Nat) := by omega
        by_cases hgt : (c : Int) < x
        · have hgt' : x > (c : Int) := hgt
          go_wp2
          go_roundg (n1 - (i + 1))
          case measure => omega
          case rel =>
            refine ⟨i + 1, rfl, by omega, by simp, ?_⟩
            rw [← decTo_succ _ _ _ (by rw [HB.out.1]; omega), ← HX.out, decI, if_pos hgt, sub_wrap]
            have h := JQ.out.set1 hne (by omega) (by omega) (by omega) (i := i) (by rw [decTo_size, HB.out.1]; omega) (wrap64 (x - 1))
            rw [Nat.zero_add] at h
            exact h
        · have hgt' : ¬ x > (c : Int) := hgt
          go_wp2
          go_roundg (n1 - (i + 1))
          case measure => omega
          case rel =>
            refine ⟨i + 1, rfl, by omega, by simp, ?_⟩
            have e : (decTo c d1 i).setIfInBounds i (decI c d1[i]!) = decTo c d1 i := by
              rw [← HX.out, decI, if_neg (by omega), HX.out, ← decTo_at c _ _ (by rw [HB.out.1]; omega)]
              exact setI_same _ _
            rw [← decTo_succ _ _ _ (by rw [HB.out.1]; omega), e]
            exact JQ.out
      · obtain rfl : i = n1 := by omega
        go_wp2
        go_roundg (2 - 1)
        case measure => omega
        case rel => exact ⟨1, rfl, by omega, by simp, JQ.out⟩
  · have JA : Hid (WJ w wr b1 b2 w.heap.size (w.heap.size + 1) (w.heap.size + 2) (.slice (some ⟨b1, 0, none⟩) n1 c1) (.slice (some ⟨b2, 0, none⟩) (n2 - 1) c2) (decTo c d1 n1) D2) := by unfold Hid; simpa [decTo_zero] using hJ
    have g1 := hJ.hg1
    clear hJ
    go_wp2
    clear g1
    go_loopg [28] (n2 - 1) (fun k s28 wq => ∃ i : Nat, k = (n2 - 1) - i ∧ i ≤ (n2 - 1) ∧ s28 = .int .i64 i ∧ WJ w wq b1 b2 w.heap.size (w.heap.size + 1) (w.heap.size + 2) (.slice (some ⟨b1, 0, none⟩) n1 c1) (.slice (some ⟨b2, 0, none⟩) (n2 - 1) c2) (decTo c d1 n1) (decTo c D2 i))
    case atStart => exact ⟨0, rfl, Nat.zero_le _, rfl, by rw [decTo_zero]; exact JA.out⟩
    case round =>
      obtain ⟨i, hk2, hi, rfl, hQ⟩ := hrel
      have JQ : Hid _ := hQ
      clear hQ
      by_cases hlt : i < (n2 - 1)
      · obtain ⟨p1, p2⟩ := JQ.out.h2 i (by rw [decTo_size, HD.out]; omega)
        rw [decTo_at _ _ _ (by rw [HD.out]; omega)] at p1
        obtain ⟨x, hx⟩ : ∃ x, x = D2[i]! := ⟨_, rfl⟩
        rw [← hx] at p1
        rw [Nat.zero_add] at p1 p2
        have HX : Hid (x = D2[i]!) := hx
        clear hx
        have hlt' : (i : Int) < ((n2 - 1) : Nat) := by omega
        by_cases hgt : (c : Int) < x
        · have hgt' : x > (c : Int) := hgt
          go_wp2
          go_roundg ((n2 - 1) - (i + 1))
          case measure => omega
          case rel =>
            refine ⟨i + 1, rfl, by omega, by simp, ?_⟩
            rw [← decTo_succ _ _ _ (by rw [HD.out]; omega), ← HX.out, decI, if_pos hgt, sub_wrap]
            have h := JQ.out.swap hne (by omega) (by omega) (by omega) (i := i) (by rw [decTo_size, HD.out]; omega) (wrap64 (x - 1))
            rw [Nat.zero_add] at h
            exact h
        · have hgt' : ¬ x > (c : Int) := hgt
          go_wp2
          go_roundg ((n2 - 1) - (i + 1))
          case measure => omega
          case rel =>
            refine ⟨i + 1, rfl, by omega, by simp, ?_⟩
            have e : (decTo c D2 i).setIfInBounds i (decI c D2[i]!) = decTo c D2 i := by
              rw [← HX.out, decI, if_neg (by omega), HX.out, ← decTo_at c _ _ (by rw [HD.out]; omega)]
              exact setI_same _ _
            rw [← decTo_succ _ _ _ (by rw [HD.out]; omega), e]
            exact JQ.out
      · obtain rfl : i = (n2 - 1) := by omega
        go_wp2
        go_roundg (2 - 2)
        case measure => omega
        case rel => exact ⟨2, rfl, by omega, by simp, JQ.out⟩
  · have JA : Hid (WJ w wr b1 b2 w.heap.size (w.heap.size + 1) (w.heap.size + 2) (.slice (some ⟨b1, 0, none⟩) n1 c1) (.slice (some ⟨b2, 0, none⟩) (n2 - 1) c2) (decTo c d1 n1) (decTo c D2 (n2 - 1))) := by unfold Hid; simpa using hJ
    have x0 := hJ.hh0
    have x1 := hJ.hh1
    obtain ⟨z0, z1, ty, hz⟩ := hJ.hr
    have y0 : wr.cell? ⟨w.heap.size + 1, 0, none⟩ = some z0 := (cellH hz).1
    have y1 : wr.cell? ⟨w.heap.size + 1, 1, none⟩ = some z1 := (cellH hz).1
    have f0 : wr.frozen? ⟨w.heap.size + 1, 0, none⟩ = false := (cellH hz).2
    have f1 : wr.frozen? ⟨w.heap.size + 1, 1, none⟩ = false := (cellH hz).2
    clear hJ hz
    go_wp2
    have hL : (d2.toList.take c ++ d2.toList.drop (c + 1)).length = n2 - 1 := by
      have := HB.out.2
      simp
      omega
    have hJ := JA.out
    rw [← hL, ← HB.out.1] at hJ
    obtain ⟨⟨ty2, hr⟩, hT⟩ := hJ.done HE.out (by omega) (by omega) (by omega)
    rw [hL, HB.out.1] at hr hT
    exact bodyPost_ret (results_cell_row (ty := 31) rfl _ _ (w.heap.size + 1) ty2 #[.slice (some ⟨b1, 0, none⟩) n1 c1, .slice (some ⟨b2, 0, none⟩) (n2 - 1) c2] (0, 0) _ rfl hr Tryz.underlying31 rfl (by kernel_rfl)) rfl ⟨rfl, hT⟩

noncomputable def C143 : List AV → Option AV := specOS (X := THeap × Int × Unit) fun x => impl_Heap_without x.1 x.2.1
theorem C143_eq {h : THeap} {c : Int} {y} (e : impl_Heap_without h c = some y) : C143 [av .own h, av .own c] = some (av .shr y) := specOS_eq (X := THeap × Int × Unit) (F := fun x => impl_Heap_without x.1 x.2.1) (x := (h, c, ())) e
theorem po143 : PO Tryz.prog 143 C143 :=
  po_without ⟨Tryz.f143, Tryz.func143, by kernel_rfl, by kernel_rfl⟩ fun xs ys c w b1 b2 c1 c2 h1 h2 h3 h4 h5 h6 h7 h8 h9 h10 => by
    have := without143 xs.toArray ys.toArray xs.length ys.length c c1 c2 b1 b2 w (by simp) (by simp) h1 h2 h3 h4 h5 h6 h7 h8 h9 h10
    simpa using this

set_option maxHeartbeats 4000000 in
set_option maxRecDepth 1000000 in
theorem text110 (k : Int) (w : World) : Calls Tryz.prog 110 #[.int .i64 k] w fun e w' => e = .returned (.string (textF k)) ∧ Below w.heap.size w w' := by
  obtain ⟨T, hT⟩ : ∃ T, T = textF k := ⟨_, rfl⟩
  rw [← hT]
  by_cases h0 : k ≤ 0
  · have e : T = ⟨#[109, 48]⟩ := by rw [hT, textF, if_pos h0]
    subst e
    clear hT
    go_enter Tryz.func110, Tryz.ntmps110
    go_wp2
    go_ret
    exact ⟨rfl, Below.refl _ _⟩
  · have HT : Hid (T = ⟨#[109]⟩ ++ digsF 21 k ⟨#[]⟩) := by show T = _; rw [hT, textF, if_neg h0]
    clear hT
    go_enter Tryz.func110, Tryz.ntmps110
    go_wp2
    go_loopg [0, 3] 21 (fun g s0 s3 wr => ∃ (x : Int) (out : ByteArray), s0 = .int .i64 x ∧ s3 = .string out ∧ Hid (T = ⟨#[109]⟩ ++ digsF g x out ∧ 1 ≤ g ∧ out.size + g ≤ 21 ∧ (g = 21 ∨ x < 10 ^ (g - 1)) ∧ Below w.heap.size w wr))
    case atStart => exact ⟨k, _, rfl, rfl, HT, by omega, by decide, .inl rfl, Below.refl _ _⟩
    case round =>
      obtain ⟨x, out, rfl, rfl, hI⟩ := hrel
      have hsz : out.size ≤ 21 := by have := hI.2.2.1; omega
      by_cases hx : 0 < x
      · have hx' : x > 0 := hx
        obtain ⟨g', rfl⟩ : ∃ g', gk = g' + 1 := ⟨gk - 1, by have := hI.2.1; omega⟩
        have hm : x.tmod 10 = x % 10 := Int.tmod_eq_emod_of_nonneg (by omega)
        have hq : x.tdiv 10 = x / 10 := Int.tdiv_eq_ediv_of_nonneg (by omega)
        have hconv : (convert 152 9 (.slice (some ⟨wr.heap.size, 0, none⟩) 1 1)).run Tryz.prog (wr.alloc (.cells #[.int .u8 (48 + x % 10)] 5)) = .ok (.string (digC x)) (wr.alloc (.cells #[.int .u8 (48 + x % 10)] 5)) := by
          have := run_convert_bytes_arg (P := Tryz.prog) (wr.alloc (.cells #[.int .u8 (48 + x % 10)] 5)) 152 5 Tryz.underlying152 Tryz.underlying5 wr.heap.size 0 1 1 [48 + x % 10] rfl (fun i hi => by
            obtain rfl : i = 0 := by omega
            simp) 9 Tryz.underlying9
          rw [this, digC, hm]
          rfl
        have HI : Hid _ := hI
        have hcat : (digC x ++ out).size = out.size + 1 := by rw [ByteArray.size_append]; show 1 + out.size = _; omega
        have hbig : (digC x ++ out).size ≤ 100 := by omega
        have hno : ¬ (9223372036854775807 < (digC x).size + out.size) := by rw [ByteArray.size_append] at hcat; omega
        clear hI hm hbig
        go_wp2
        go_roundg g'
        case measure => omega
        case rel =>
          obtain ⟨i1, i2, i3, i4, i5⟩ := HI.out
          refine ⟨_, _, rfl, rfl, ?_, ?_, ?_, ?_, i5.alloc i5.size _⟩
          · rw [i1, digsF, if_pos hx, hq]
            show _ ++ digsF g' (IntKind.i64.wrap (x / 10)) _ = _
            rw [Go.IntWalk.i64_left]
          · rcases i4 with h | h
            · omega
            · rcases g' with _ | g'
              · simp at h; omega
              · omega
          · rw [hcat]; omega
          · have hw : wrap64 (x / 10) ≤ x / 10 := by unfold wrap64; omega
            have hw2 : wrap64 (x / 10) < 10000000000000000000 := by unfold wrap64; omega
            rcases i4 with h | h
            · obtain rfl : g' = 20 := by omega
              exact .inr (by simpa using hw2)
            · rcases g' with _ | g'
              · simp at h; omega
              · right
                simp only [Nat.add_sub_cancel] at h ⊢
                rw [Int.pow_succ] at h
                omega
      · have hx' : ¬ x > 0 := hx
        obtain ⟨g', rfl⟩ : ∃ g', gk = g' + 1 := ⟨gk - 1, by have := hI.2.1; omega⟩
        have e : digsF (g' + 1) x out = out := by rw [digsF, if_neg hx]
        have hT := hI.1
        rw [e] at hT
        have hB : Hid (Below w.heap.size w wr) := hI.2.2.2.2
        have HT2 : Hid (T = ⟨#[109]⟩ ++ out) := hT
        clear hI hT e
        go_wp2
        go_ret
        exact ⟨by rw [HT2.out]; rfl, hB.out⟩

noncomputable def C110 : List AV → Option AV := specP (X := Int × Unit) fun x => some (textF x.1)
theorem C110_k (k : Int) : C110 [.one (.s (.int .i64 k))] = some (.one (.s (.string (textF k)))) := zag (X := Int × Unit) (F := fun x => some (textF x.1)) (x := (k, ())) rfl
theorem pc110 : PC Tryz.prog 110 C110 := pc_text textF ⟨Tryz.f110, Tryz.func110, by kernel_rfl, by kernel_rfl⟩ text110
end Go.Proofs

