import Derived.Test.YtmmliafoddlgfaaGreatEvA10
import Derived.Test.YtmmliafoddlgfaaGreatEvA9
import Derived.Test.YtmmliafoddlgfaaGreatProg
import Derived.KernelRfl
set_option linter.unusedSimpArgs false
set_option linter.unusedVariables false
set_option linter.unnecessarySimpa false
noncomputable section
namespace Go.Ev
theorem spec_copy (h : THeap) (o : okH h) : spec_l7Copy h = some h := by
 unfold spec_l7Copy
 have o1 := o.1
 have o2 := o.2
 simp [room_small (show ([] : List Int).length + h.vars.length ≤ 4000000 by simp; omega) (show 8 ≤ 1000 by omega), room_small (show ([] : List Int).length + h.next.length ≤ 4000000 by simp; omega) (show 8 ≤ 1000 by omega)]
 simp [room_small (show h.vars.length ≤ 4000000 by omega) (show 8 ≤ 1000 by omega), room_small (show h.next.length ≤ 4000000 by omega) (show 8 ≤ 1000 by omega)]
structure Good (nv : Nat) (h : THeap) : Prop where
 v1 : h.vars.length = nv
 v2 : 1 ≤ nv ∧ nv ≤ 4
 n1 : h.next.length ≤ 6
 cv : ∀ x ∈ h.vars, -1 ≤ x ∧ x < (h.next.length : Int)
 cn : ∀ x ∈ h.next, -1 ≤ x ∧ x < (h.next.length : Int)
theorem good_of {nv : Nat} {h : THeap} (hh : isHeapB (nv : Int) h = true) : Good nv h := by
 unfold isHeapB at hh
 simp only [Bool.and_eq_true, decide_eq_true_eq, cellsB, List.all_eq_true, inH] at hh
 obtain ⟨⟨⟨⟨⟨h1, h2⟩, h3⟩, h4, h5⟩, _⟩, _⟩ := hh
 exact ⟨by omega, by omega, by omega, fun x hx => by have := h4 x hx; omega, fun x hx => by have := h5 x hx; omega⟩
theorem Good.ok {nv : Nat} {h : THeap} (g : Good nv h) : okH h := ⟨by have := g.v1; have := g.v2; omega, by have := g.n1; omega⟩
theorem ok_set {h : THeap} {a : Nat} {x : Int} (o : okH h) : okH ⟨h.vars.set a x, h.next⟩ := ⟨by simpa using o.1, o.2⟩
theorem ok_setn {h : THeap} {a : Nat} {x : Int} (o : okH h) : okH ⟨h.vars, h.next.set a x⟩ := ⟨o.1, by simpa using o.2⟩
theorem getD_mem {xs : List Int} {i : Int} (h : 0 ≤ i ∧ i < (xs.length : Int)) : xs.getD i.toNat 0 ∈ xs := by
 have : i.toNat < xs.length := by omega
 simp [List.getD, this]
theorem impl_at (h : THeap) (vars : List ByteArray) (nm : ByteArray) (hn : smN vars) (hl : h.vars.length = vars.length) : impl_Heap_at h vars nm = some (if 0 ≤ idxS vars nm then h.vars.getD (idxS vars nm).toNat 0 else -1) := by
 unfold impl_Heap_at
 have hr := idxS_in vars nm
 rw [impl_indexOf vars nm hn.1, Option.bind_some, cond_le]
 by_cases h0 : 0 ≤ idxS vars nm
 ·rw [if_pos h0, if_pos h0, at_in (by omega)]; rfl
 ·rw [if_neg h0, if_neg h0]
theorem max0 (x : Int) : spec_l1Max 0 x = some (if x < 0 then 0 else x) := by
 unfold spec_l1Max
 rw [zao]
 split <;> rfl
theorem isTest_eq (s : TStmt) : impl_IsTest s = some (decide (9 ≤ s.kind ∧ s.kind ≤ 12)) ∧ spec_IsTest s = some (decide (9 ≤ s.kind ∧ s.kind ≤ 12)) := by
 unfold impl_IsTest spec_IsTest
 rw [within_eq, l1In_eq]
 exact ⟨rfl, rfl⟩
structure Both (vars : List ByteArray) (s : TStmt) (h : THeap) (r : THeap × Int) : Prop where
 spec : spec_Exec vars s h = some r
 impl : impl_Exec vars s h = some r
 tiny : r.1.vars.length ≤ 4 ∧ r.1.next.length ≤ 7
theorem fin_tiny {x : THeap} (h : x.vars.length ≤ 4 ∧ x.next.length ≤ 7) : (finF x).1.vars.length ≤ 4 ∧ (finF x).1.next.length ≤ 7 := by
 have := canF_len x
 unfold finF
 split
 ·simp
 ·exact ⟨Nat.le_trans this.1 h.1, Nat.le_trans this.2 h.2⟩
theorem len_set {h : THeap} {nv a : Nat} {x : Int} (g : Good nv h) : (h.vars.set a x).length ≤ 4 ∧ h.next.length ≤ 7 := ⟨by have := g.v1; have := g.v2; simp; omega, by have := g.n1; omega⟩
theorem len_setn {h : THeap} {nv a : Nat} {x : Int} (g : Good nv h) : h.vars.length ≤ 4 ∧ (h.next.set a x).length ≤ 7 := ⟨by have := g.v1; have := g.v2; omega, by have := g.n1; simp; omega⟩
def specTail (s : TStmt) (h : THeap) (A B : Int) : Option (THeap × Int) := (spec_l8Do s h A B).bind fun y => cond (neI y.2 0) (some ((⟨[], []⟩ : THeap), y.2)) ((spec_HasLeak y.1).bind fun y_54 => cond y_54 (some ((⟨[], []⟩ : THeap), (4 : Int))) ((spec_CanonHeap y.1).bind fun y_58 => some (y_58, 0)))
theorem specTail_ok {s : TStmt} {h : THeap} {A B : Int} {x : THeap} (hd : spec_l8Do s h A B = some (x, 0)) (o : okH x) : specTail s h A B = some (finF x) := by
 unfold specTail
 rw [hd, Option.bind_some]
 exact spec_fin x o
theorem specTail_err {s : TStmt} {h : THeap} {A B : Int} {x : THeap} {c : Int} (hd : spec_l8Do s h A B = some (x, c)) (hc : c ≠ 0) : specTail s h A B = some (⟨[], []⟩, c) := by
 unfold specTail
 rw [hd, Option.bind_some]
 simp [neI, hc]
def implTail (s : TStmt) (h : THeap) (own va vb : Int) : Option (THeap × Int) := (zam h s own va vb).bind fun x => (impl_HasLeak x).bind fun y_54 => cond y_54 (some ((⟨[], []⟩ : THeap), (4 : Int))) ((impl_CanonHeap x).bind fun y_58 => some (y_58, 0))
theorem implTail_ok {s : TStmt} {h : THeap} {own va vb : Int} {x : THeap} (hd : zam h s own va vb = some x) (o : okH x) : implTail s h own va vb = some (finF x) := by
 unfold implTail
 rw [hd, Option.bind_some]
 exact impl_fin x o
def specMid (k : Int) (a b : ByteArray) (h : THeap) (A B : Int) : Option (THeap × Int) :=
 (spec_l8Null ⟨k, a, b⟩ h A B).bind fun y_64 => cond y_64 (some ((⟨[], []⟩ : THeap), (2 : Int)))
  ((show Option Bool from cond (eqI k 3) (some (eqI (h.next.length : Int) 6)) (some false)).bind fun r_68 => cond r_68 (some ((⟨[], []⟩ : THeap), (6 : Int))) (specTail ⟨k, a, b⟩ h A B))
def implMid (k : Int) (a b : ByteArray) (h : THeap) (own va vb : Int) : Option (THeap × Int) :=
 (impl_needs k va vb).bind fun y_31 => (show Option Bool from cond y_31.2 (some (eqI y_31.1 (-1))) (some false)).bind fun r_59 => cond r_59 (some ((⟨[], []⟩ : THeap), (2 : Int)))
  ((show Option Bool from cond (eqI k 3) (some (eqI (h.next.length : Int) 6)) (some false)).bind fun r_76 => cond r_76 (some ((⟨[], []⟩ : THeap), (6 : Int)))
   ((show Option Bool from cond (eqI k 8) ((impl_Positions h.vars va).bind fun y_109 => cond (ltI 1 (y_109.length : Int)) (some true) ((zal h.next va).bind fun y_113 => some y_113)) (some false)).bind fun r_93 => cond r_93 (some ((⟨[], []⟩ : THeap), (5 : Int)))
    ((show Option Bool from cond (eqI k 7) ((impl_Followed h vb).bind fun y_133 => (zal y_133 va).bind fun y_136 => some y_136) (some false)).bind fun r_117 => cond r_117 (some ((⟨[], []⟩ : THeap), (3 : Int))) (implTail ⟨k, a, b⟩ h own va vb))))
def testB (k va vb : Int) : Bool := if k = 9 then decide (va = -1) else if k = 10 then !decide (va = -1) else if k = 11 then decide (va = vb) else !decide (va = vb)
theorem spec_test (k va vb : Int) : spec_l8Test k va vb = some (testB k va vb) := by
 unfold spec_l8Test testB
 simp only [cond_eq]
 split
 ·rfl
 ·split
  ·rfl
  ·split <;> rfl
theorem impl_test (k va vb : Int) : impl_holds k va vb = some (testB k va vb) := by
 unfold impl_holds testB
 simp only [cond_eq]
 split
 ·rfl
 ·split
  ·rfl
  ·split <;> rfl
theorem specMid_go {k : Int} {a b : ByteArray} {h : THeap} {A B : Int} (h3 : eqI k 3 = false) (hn : spec_l8Null ⟨k, a, b⟩ h A B = some false) : specMid k a b h A B = specTail ⟨k, a, b⟩ h A B := by
 unfold specMid
 rw [hn, h3]
 rfl
theorem specMid_nul {k : Int} {a b : ByteArray} {h : THeap} {A B : Int} (hn : spec_l8Null ⟨k, a, b⟩ h A B = some true) : specMid k a b h A B = some (⟨[], []⟩, 2) := by
 unfold specMid
 rw [hn]
 rfl
theorem implMid_nul {k : Int} {a b : ByteArray} {h : THeap} {own va vb v : Int} (hn : impl_needs k va vb = some (v, true)) (hv : v = -1) : implMid k a b h own va vb = some (⟨[], []⟩, 2) := by
 unfold implMid
 rw [hn, hv]
 rfl
theorem need_ok {v : Int} {is : Bool} (hz : is = true → v ≠ -1) : cond is (some (eqI v (-1))) (some false) = some false := by
 cases is
 ·rfl
 ·have := hz rfl
  simp [eqI, this]
theorem implMid_go {k : Int} {a b : ByteArray} {h : THeap} {own va vb v : Int} {is : Bool} (h3 : eqI k 3 = false) (h8 : eqI k 8 = false) (h7 : eqI k 7 = false) (hn : impl_needs k va vb = some (v, is)) (hz : is = true → v ≠ -1) : implMid k a b h own va vb = implTail ⟨k, a, b⟩ h own va vb := by
 have := need_ok hz
 unfold implMid
 simp only [hn, Option.bind_some, h3, h8, h7, cond_false, this]
theorem exec_both (vars : List ByteArray) (s : TStmt) (h : THeap) (hn : smN vars) : ∃ r, Both vars s h r := by
 cases hst : stB vars s with
 | false => exact ⟨(⟨[], []⟩, 7), by unfold spec_Exec; simp [spec_isStmt vars s hn, hst], by unfold impl_Exec; simp [impl_isStmt vars s hn, hst], by simp⟩
 | true =>
 cases hhp : isHeapB (vars.length : Int) h with
 | false => exact ⟨(⟨[], []⟩, 7), by unfold spec_Exec; simp [spec_isStmt vars s hn, hst, spec_isHeap, hhp, notB], by unfold impl_Exec; simp [impl_isStmt vars s hn, hst, impl_isHeap, hhp, notB], by simp⟩
 | true =>
 have g := good_of hhp
 have hv1 := g.v1
 have hv2 := g.v2
 have hn1 := g.n1
 have hnk : 1 ≤ s.kind ∧ s.kind ≤ 12 := by
  unfold stB at hst
  simp only [Bool.and_eq_true, decide_eq_true_eq] at hst
  obtain ⟨_, h0, _⟩ := hst
  unfold nk at h0
  by_cases hc : 1 ≤ s.kind ∧ s.kind ≤ 12
  ·exact hc
  ·rw [if_neg (by omega), if_neg (by omega), if_neg (by omega)] at h0
   omega
 have hia := idxS_in vars s.a
 have hib := idxS_in vars s.b
 have hA : nk s.kind ≥ 1 → 0 ≤ idxS vars s.a := fun hk => by
  unfold stB at hst
  simp only [Bool.and_eq_true] at hst
  have := hst.2.2.1
  rw [if_neg (by omega)] at this
  simpa using this
 have hB : nk s.kind ≥ 2 → 0 ≤ idxS vars s.b := fun hk => by
  unfold stB at hst
  simp only [Bool.and_eq_true] at hst
  have := hst.2.2.2
  rw [if_neg (by omega)] at this
  simpa using this
 obtain ⟨k, a, b⟩ := s
 simp only at hnk hA hB hia hib
 -- what stands at the names
 obtain ⟨ia, ea⟩ : ∃ ia, ia = idxS vars a := ⟨_, rfl⟩
 obtain ⟨ib, eb⟩ : ∃ ib, ib = idxS vars b := ⟨_, rfl⟩
 rw [← ea] at hia hA
 rw [← eb] at hib hB
 have atA : at? h.vars (if ia < 0 then 0 else ia) = some (h.vars.getD (if ia < 0 then 0 else ia).toNat 0) := at_in (by split <;> omega)
 have atB : at? h.vars (if ib < 0 then 0 else ib) = some (h.vars.getD (if ib < 0 then 0 else ib).toNat 0) := at_in (by split <;> omega)
 have S0 : spec_Exec vars ⟨k, a, b⟩ h = ((show Option Bool from cond (decide (9 ≤ k ∧ k ≤ 12)) ((spec_l8Test k (h.vars.getD (if ia < 0 then 0 else ia).toNat 0) (h.vars.getD (if ib < 0 then 0 else ib).toNat 0)).bind fun y => some (notB y)) (some false)).bind fun r_33 =>
  cond r_33 (some ((⟨[], []⟩ : THeap), (1 : Int))) (specMid k a b h (if ia < 0 then 0 else ia) (if ib < 0 then 0 else ib))) := by
  unfold spec_Exec specMid specTail
  simp only [spec_isStmt vars _ hn, hst, spec_isHeap, hhp, notB, Option.bind_some, cond_true, Bool.not_true, cond_false, spec_indexOf vars _ hn.1, ← ea, ← eb, max0, (isTest_eq _).2, atA, atB, spec_copy h g.ok]
 have I0 : impl_Exec vars ⟨k, a, b⟩ h = ((show Option Bool from cond (decide (9 ≤ k ∧ k ≤ 12)) ((impl_holds k (if 0 ≤ ia then h.vars.getD ia.toNat 0 else -1) (if 0 ≤ ib then h.vars.getD ib.toNat 0 else -1)).bind fun y => some (notB y)) (some false)).bind fun r_33 =>
  cond r_33 (some ((⟨[], []⟩ : THeap), (1 : Int))) (implMid k a b h ia (if 0 ≤ ia then h.vars.getD ia.toNat 0 else -1) (if 0 ≤ ib then h.vars.getD ib.toNat 0 else -1))) := by
  unfold impl_Exec implMid implTail
  simp only [impl_isStmt vars _ hn, hst, impl_isHeap, hhp, notB, Option.bind_some, cond_true, Bool.not_true, cond_false, impl_indexOf vars _ hn.1, ← ea, ← eb, impl_at h vars _ hn hv1, (isTest_eq _).1]
  unfold impl_needs
  simp only [cond_eq]
  split
  ·rfl
  ·split
   ·rfl
   ·split
    ·rfl
    ·split <;> rfl
 obtain ⟨A, hAd⟩ : ∃ A, A = (if ia < 0 then 0 else ia) := ⟨_, rfl⟩
 obtain ⟨B, hBd⟩ : ∃ B, B = (if ib < 0 then 0 else ib) := ⟨_, rfl⟩
 obtain ⟨va, hva⟩ : ∃ va, va = (if 0 ≤ ia then h.vars.getD ia.toNat 0 else -1) := ⟨_, rfl⟩
 obtain ⟨vb, hvb⟩ : ∃ vb, vb = (if 0 ≤ ib then h.vars.getD ib.toNat 0 else -1) := ⟨_, rfl⟩
 rw [← hAd] at S0 atA
 rw [← hBd] at S0 atB
 rw [← hva, ← hvb] at I0
 have FA : nk k ≥ 1 → A = ia ∧ 0 ≤ ia ∧ at? h.vars ia = some va ∧ -1 ≤ va ∧ va < (h.next.length : Int) ∧ h.vars.getD A.toNat 0 = va := fun hk => by
  have h0 := hA hk
  rw [if_neg (by omega)] at hAd
  rw [if_pos h0] at hva
  subst hAd
  have := g.cv _ (getD_mem (xs := h.vars) (i := A) (by omega))
  rw [hva]
  exact ⟨rfl, h0, atA, this.1, this.2, rfl⟩
 have FB : nk k ≥ 2 → B = ib ∧ 0 ≤ ib ∧ at? h.vars ib = some vb ∧ -1 ≤ vb ∧ vb < (h.next.length : Int) ∧ h.vars.getD B.toNat 0 = vb := fun hk => by
  have h0 := hB hk
  rw [if_neg (by omega)] at hBd
  rw [if_pos h0] at hvb
  subst hBd
  have := g.cv _ (getD_mem (xs := h.vars) (i := B) (by omega))
  rw [hvb]
  exact ⟨rfl, h0, atB, this.1, this.2, rfl⟩
 have ok := g.ok
 have cl1 : slices_Clone_int h.vars = some h.vars := clone_int _ ok.v
 have cl2 : slices_Clone_int h.next = some h.next := clone_int _ ok.n
 have S1 : decide (9 ≤ k ∧ k ≤ 12) = false → spec_Exec vars ⟨k, a, b⟩ h = specMid k a b h A B := fun hd => by rw [S0, hd]; rfl
 have I1 : decide (9 ≤ k ∧ k ≤ 12) = false → impl_Exec vars ⟨k, a, b⟩ h = implMid k a b h ia va vb := fun hd => by rw [I0, hd]; rfl
 have T1 : decide (9 ≤ k ∧ k ≤ 12) = true → ∀ tb, testB k (h.vars.getD A.toNat 0) (h.vars.getD B.toNat 0) = tb → testB k va vb = tb → eqI k 3 = false → eqI k 8 = false → eqI k 7 = false → spec_l8Null ⟨k, a, b⟩ h A B = some false → impl_needs k va vb = some (0, false) →
  spec_l8Do ⟨k, a, b⟩ h A B = some (h, 0) → zam h ⟨k, a, b⟩ ia va vb = some h → ∃ r, Both vars ⟨k, a, b⟩ h r := fun hd tb t1 t2 h3 h8 h7 n1 n2 d1 d2 => by
  have S : spec_Exec vars ⟨k, a, b⟩ h = cond (notB tb) (some ((⟨[], []⟩ : THeap), (1 : Int))) (specMid k a b h A B) := by rw [S0, hd, spec_test, t1]; rfl
  have I : impl_Exec vars ⟨k, a, b⟩ h = cond (notB tb) (some ((⟨[], []⟩ : THeap), (1 : Int))) (implMid k a b h ia va vb) := by rw [I0, hd, impl_test, t2]; rfl
  cases tb
  ·exact ⟨_, S, I, by simp⟩
  ·exact ⟨finF h, S.trans ((specMid_go h3 n1).trans (specTail_ok d1 ok)), I.trans ((implMid_go h3 h8 h7 n2 (fun e => by cases e)).trans (implTail_ok d2 ok)), fin_tiny ⟨by omega, by omega⟩⟩
 rcases kinds hnk with rfl | rfl | rfl | rfl | rfl | rfl | rfl | rfl | rfl | rfl | rfl | rfl
 ·refine ⟨finF h, (S1 rfl).trans ((specMid_go rfl rfl).trans (specTail_ok rfl ok)), (I1 rfl).trans ((implMid_go rfl rfl rfl rfl (fun e => by cases e)).trans (implTail_ok ?_ ok)), fin_tiny ⟨by omega, by omega⟩⟩
  unfold zam
  rw [cl1, cl2]
  rfl
 ·obtain ⟨rfl, h0, at1, w1, w2, _⟩ := FA (by decide)
  refine ⟨finF ⟨h.vars.set A.toNat (-1), h.next⟩, (S1 rfl).trans ((specMid_go rfl rfl).trans (specTail_ok ?_ (ok_set ok))), (I1 rfl).trans ((implMid_go rfl rfl rfl rfl (fun e => by cases e)).trans (implTail_ok ?_ (ok_set ok))), fin_tiny (len_set g)⟩
  ·show (at? h.vars A).bind _ = _
   rw [at1]; rfl
  ·unfold zam
   rw [cl1, cl2]
   show (at? h.vars A).bind _ = _
   rw [at1]; rfl
 ·obtain ⟨rfl, h0, at1, w1, w2, _⟩ := FA (by decide)
  by_cases hf : (h.next.length : Int) = 6
  ·refine ⟨(⟨[], []⟩, 6), (S1 rfl).trans ?_, (I1 rfl).trans ?_, by simp⟩
   ·show cond (eqI (h.next.length : Int) 6) _ _ = _
    simp [eqI, hf]
   ·show cond (eqI (h.next.length : Int) 6) _ _ = _
    simp [eqI, hf]
  ·have hr : room (h.next.length + [(-1 : Int)].length) 8 = some () := room_small (by simp; omega) (by omega)
   have ok3 : okH ⟨h.vars.set A.toNat (h.next.length : Int), h.next ++ [-1]⟩ := ⟨by have := ok.1; simpa using this, by simp; omega⟩
   refine ⟨finF ⟨h.vars.set A.toNat (h.next.length : Int), h.next ++ [-1]⟩, (S1 rfl).trans (Eq.trans (?_ : _ = specTail ⟨3, a, b⟩ h A B) (specTail_ok ?_ ok3)), (I1 rfl).trans (Eq.trans (?_ : _ = implTail ⟨3, a, b⟩ h A va vb) (implTail_ok ?_ ok3)), fin_tiny ⟨by simp; omega, by simp; omega⟩⟩
   ·show cond (eqI (h.next.length : Int) 6) _ _ = _
    simp [eqI, hf]
   ·show (at? h.vars A).bind _ = _
    rw [at1, Option.bind_some, hr]; rfl
   ·show cond (eqI (h.next.length : Int) 6) _ _ = _
    simp only [eqI, hf, decide_false, cond_false]
    rfl
   ·unfold zam
    rw [cl1, cl2]
    show (at? h.vars A).bind _ = _
    rw [at1, Option.bind_some, hr]; rfl
 ·obtain ⟨rfl, h0, at1, w1, w2, _⟩ := FA (by decide)
  obtain ⟨rfl, h0', at1', w1', w2', _⟩ := FB (by decide)
  refine ⟨finF ⟨h.vars.set A.toNat vb, h.next⟩, (S1 rfl).trans ((specMid_go rfl rfl).trans (specTail_ok ?_ (ok_set ok))), (I1 rfl).trans ((implMid_go rfl rfl rfl rfl (fun e => by cases e)).trans (implTail_ok ?_ (ok_set ok))), fin_tiny (len_set g)⟩
  ·show (at? h.vars B).bind _ = _
   rw [at1', Option.bind_some, at1]; rfl
  ·unfold zam
   rw [cl1, cl2]
   show (at? h.vars A).bind _ = _
   rw [at1]; rfl
 ·obtain ⟨rfl, h0, at1, w1, w2, _⟩ := FA (by decide)
  obtain ⟨rfl, h0', at1', w1', w2', _⟩ := FB (by decide)
  by_cases hz : vb = -1
  ·refine ⟨(⟨[], []⟩, 2), (S1 rfl).trans (specMid_nul ?_), (I1 rfl).trans (implMid_nul rfl hz), by simp⟩
   show (at? h.vars B).bind _ = _
   rw [at1']; simp [eqI, hz]
  ·have at2 : at? h.next vb = some (h.next.getD vb.toNat 0) := at_in (by omega)
   refine ⟨finF ⟨h.vars.set A.toNat (h.next.getD vb.toNat 0), h.next⟩, (S1 rfl).trans ((specMid_go rfl ?_).trans (specTail_ok ?_ (ok_set ok))), (I1 rfl).trans ((implMid_go rfl rfl rfl rfl (fun _ => hz)).trans (implTail_ok ?_ (ok_set ok))), fin_tiny (len_set g)⟩
   ·show (at? h.vars B).bind _ = _
    rw [at1']; simp [eqI, hz]
   ·show (at? h.vars B).bind _ = _
    rw [at1', Option.bind_some, at2, Option.bind_some, at1]; rfl
   ·unfold zam
    rw [cl1, cl2]
    show (at? h.next vb).bind _ = _
    rw [at2, Option.bind_some, at1]; rfl
 ·obtain ⟨rfl, h0, at1, w1, w2, _⟩ := FA (by decide)
  by_cases hz : va = -1
  ·refine ⟨(⟨[], []⟩, 2), (S1 rfl).trans (specMid_nul ?_), (I1 rfl).trans (implMid_nul rfl hz), by simp⟩
   show (at? h.vars A).bind _ = _
   rw [at1]; simp [eqI, hz]
  ·have at2 : at? h.next va = some (h.next.getD va.toNat 0) := at_in (by omega)
   refine ⟨finF ⟨h.vars, h.next.set va.toNat (-1)⟩, (S1 rfl).trans ((specMid_go rfl ?_).trans (specTail_ok ?_ (ok_setn ok))), (I1 rfl).trans ((implMid_go rfl rfl rfl rfl (fun _ => hz)).trans (implTail_ok ?_ (ok_setn ok))), fin_tiny (len_setn g)⟩
   ·show (at? h.vars A).bind _ = _
    rw [at1]; simp [eqI, hz]
   ·show (at? h.vars A).bind _ = _
    rw [at1, Option.bind_some, at2]; rfl
   ·unfold zam
    rw [cl1, cl2]
    show (at? h.next va).bind _ = _
    rw [at2]; rfl
 ·obtain ⟨rfl, h0, at1, w1, w2, _⟩ := FA (by decide)
  obtain ⟨rfl, h0', at1', w1', w2', _⟩ := FB (by decide)
  by_cases hz : va = -1
  ·refine ⟨(⟨[], []⟩, 2), (S1 rfl).trans (specMid_nul ?_), (I1 rfl).trans (implMid_nul rfl hz), by simp⟩
   show (at? h.vars A).bind _ = _
   rw [at1]; simp [eqI, hz]
  ·have at2 : at? h.next va = some (h.next.getD va.toNat 0) := at_in (by omega)
   have sn : spec_l8Null ⟨7, a, b⟩ h A B = some false := by
    show (at? h.vars A).bind _ = _
    rw [at1]; simp [eqI, hz]
   have hfol : spec_l7Has (folL h.next vb) va = some (decide (va ∈ folL h.next vb)) := l7Has _ _ (small_fol ok.n vb)
   have hcon : zal (folL h.next vb) va = some (decide (va ∈ folL h.next vb)) := contains_int _ _ (small_fol ok.n vb)
   have im : implMid 7 a b h A va vb = cond (decide (va ∈ folL h.next vb)) (some ((⟨[], []⟩ : THeap), (3 : Int))) (implTail ⟨7, a, b⟩ h A va vb) := by
    unfold implMid
    rw [show impl_needs 7 va vb = some (va, true) from rfl]
    simp only [Option.bind_some, cond_true, cond_false, show eqI (7 : Int) 3 = false from rfl, show eqI (7 : Int) 8 = false from rfl, show eqI (7 : Int) 7 = true from rfl, show eqI va (-1) = false from by simp [eqI, hz], impl_followed h ok.n vb, hcon]
   by_cases hcy : va ∈ folL h.next vb
   ·refine ⟨(⟨[], []⟩, 3), (S1 rfl).trans ((specMid_go rfl sn).trans (specTail_err (x := ⟨[], []⟩) ?_ (by decide))), (I1 rfl).trans (im.trans (by simp [hcy])), by simp⟩
    show (at? h.vars B).bind _ = _
    rw [at1', Option.bind_some, spec_followed h ok.n vb, Option.bind_some, at1, Option.bind_some, hfol]
    simp [hcy]
   ·refine ⟨finF ⟨h.vars, h.next.set va.toNat vb⟩, (S1 rfl).trans ((specMid_go rfl sn).trans (specTail_ok ?_ (ok_setn ok))), (I1 rfl).trans (im.trans (Eq.trans (b := implTail ⟨7, a, b⟩ h A va vb) (by simp [hcy]) (implTail_ok ?_ (ok_setn ok)))), fin_tiny (len_setn g)⟩
    ·show (at? h.vars B).bind _ = _
     rw [at1', Option.bind_some, spec_followed h ok.n vb, Option.bind_some, at1, Option.bind_some, hfol]
     simp [hcy, at2]
    ·unfold zam
     rw [cl1, cl2]
     show (at? h.next va).bind _ = _
     rw [at2]; rfl
 ·obtain ⟨rfl, h0, at1, w1, w2, _⟩ := FA (by decide)
  by_cases hz : va = -1
  ·refine ⟨(⟨[], []⟩, 2), (S1 rfl).trans (specMid_nul ?_), (I1 rfl).trans (implMid_nul rfl hz), by simp⟩
   show (at? h.vars A).bind _ = _
   rw [at1]; simp [eqI, hz]
  ·have sn : spec_l8Null ⟨8, a, b⟩ h A B = some false := by
    show (at? h.vars A).bind _ = _
    rw [at1]; simp [eqI, hz]
   have hp := positions h.vars va ok.v
   have hhas : spec_l7Has h.next va = some (decide (va ∈ h.next)) := l7Has _ _ ok.n
   have hcon : zal h.next va = some (decide (va ∈ h.next)) := contains_int _ _ ok.n
   have im : implMid 8 a b h A va vb = cond (decide (1 < ((posF va 0 h.vars).length : Int)) || decide (va ∈ h.next)) (some ((⟨[], []⟩ : THeap), (5 : Int))) (implTail ⟨8, a, b⟩ h A va vb) := by
    unfold implMid
    rw [show impl_needs 8 va vb = some (va, true) from rfl]
    simp only [Option.bind_some, cond_true, cond_false, show eqI (8 : Int) 3 = false from rfl, show eqI (8 : Int) 7 = false from rfl, show eqI (8 : Int) 8 = true from rfl, show eqI va (-1) = false from by simp [eqI, hz], positions_eq, hp, hcon, ltI]
    cases decide (1 < ((posF va 0 h.vars).length : Int)) <;> cases decide (va ∈ h.next) <;> rfl
   have sd : spec_l8Do ⟨8, a, b⟩ h A B = (spec_l8Free h A).bind fun y => some (y.1, y.2) := rfl
   have sf : spec_l8Free h A = cond (decide (1 < ((posF va 0 h.vars).length : Int)) || decide (va ∈ h.next)) (some (⟨[], []⟩, 5)) ((spec_l8Without ⟨h.vars.set A.toNat (-1), h.next⟩ va).bind fun y_20 => some (y_20, 0)) := by
    unfold spec_l8Free
    rw [at1, Option.bind_some, hp, Option.bind_some, hhas]
    simp only [ltI, Option.bind_some]
    cases decide (1 < ((posF va 0 h.vars).length : Int)) <;> cases decide (va ∈ h.next) <;> rfl
   cases hdang : (decide (1 < ((posF va 0 h.vars).length : Int)) || decide (va ∈ h.next)) with
   | true =>
    rw [hdang] at im sf
    exact ⟨(⟨[], []⟩, 5), (S1 rfl).trans ((specMid_go rfl sn).trans (specTail_err (x := ⟨[], []⟩) (by rw [sd, sf]; rfl) (by decide))), (I1 rfl).trans im, by simp⟩
   | false =>
    rw [hdang] at im sf
    have hcv : ∀ x ∈ h.vars.set A.toNat (-1), -1 ≤ x ∧ x ≤ 1000 := fun x hx => by
     rcases List.mem_or_eq_of_mem_set hx with h | rfl
     ·have := g.cv x h; omega
     ·omega
    have hw := spec_without ⟨h.vars.set A.toNat (-1), h.next⟩ va (ok_set ok) (by simp; omega) hcv (fun x hx => by have := g.cn x hx; omega)
    have ok8 : okH ⟨(h.vars.set A.toNat (-1)).map (decI va), ((h.next.take va.toNat) ++ h.next.drop (va.toNat + 1)).map (decI va)⟩ := ⟨by have := ok.1; simpa using this, by simp; omega⟩
    refine ⟨finF _, (S1 rfl).trans ((specMid_go rfl sn).trans (specTail_ok (by rw [sd, sf]; show ((spec_l8Without _ _).bind _).bind _ = _; rw [hw]; rfl) ok8)), (I1 rfl).trans (im.trans (implTail_ok ?_ ok8)), fin_tiny ⟨by simp; omega, by simp; omega⟩⟩
    unfold zam
    rw [cl1, cl2]
    show (at? h.vars A).bind _ = _
    rw [at1, Option.bind_some]
    unfold impl_Heap_without withoutF
    rw [if_pos ⟨by simp; rintro e; rw [e] at hv1; simp at hv1; omega, by simp; omega, by simp; omega, by omega, by simpa using w2⟩]
    rfl
 ·obtain ⟨rfl, h0, at1, w1, w2, e1⟩ := FA (by decide)
  exact T1 rfl (testB 9 va vb) (by rw [e1]; rfl) rfl rfl rfl rfl rfl rfl rfl (by unfold zam; rw [cl1, cl2]; rfl)
 ·obtain ⟨rfl, h0, at1, w1, w2, e1⟩ := FA (by decide)
  exact T1 rfl (testB 10 va vb) (by rw [e1]; rfl) rfl rfl rfl rfl rfl rfl rfl (by unfold zam; rw [cl1, cl2]; rfl)
 ·obtain ⟨rfl, h0, at1, w1, w2, e1⟩ := FA (by decide)
  obtain ⟨rfl, h0', at1', w1', w2', e2⟩ := FB (by decide)
  exact T1 rfl (testB 11 va vb) (by rw [e1, e2]) rfl rfl rfl rfl rfl rfl rfl (by unfold zam; rw [cl1, cl2]; rfl)
 ·obtain ⟨rfl, h0, at1, w1, w2, e1⟩ := FA (by decide)
  obtain ⟨rfl, h0', at1', w1', w2', e2⟩ := FB (by decide)
  exact T1 rfl (testB 12 va vb) (by rw [e1, e2]) rfl rfl rfl rfl rfl rfl rfl (by unfold zam; rw [cl1, cl2]; rfl)
end Go.Ev


namespace Go.Ev
open Wf (wf)
open Sm (sm lg)
def tinyS (s : TState) : Prop := s.heap.vars.length ≤ 4 ∧ s.heap.next.length ≤ 7
theorem smP_of {p : TProgram} (h : sm p) : smP p := by
 refine ⟨⟨?_, fun s hs => ?_⟩, ?_⟩
 ·have := h.1.1; unfold small; omega
 ·have := h.1.2 s hs
  have : s.size ≤ 1048576 := this
  unfold small; omega
 ·have := h.2.1; unfold small; omega
end Go.Ev


namespace Go.Ev
open Wf (wf)
open Sm (sm lg)
def Tot2 {α β : Type} (o : Option α) (o' : Option β) (Q : α → β → Prop) : Prop := ∃ a b, o = some a ∧ o' = some b ∧ Q a b
theorem Tot2.ret {α β : Type} {a : α} {b : β} {Q : α → β → Prop} (h : Q a b) : Tot2 (some a) (some b) Q := ⟨a, b, rfl, rfl, h⟩
theorem Tot2.loop {σ τ ρ ρ' : Type} {st1 : σ → Option (σ ⊕ ρ)} {st2 : τ → Option (τ ⊕ ρ')} {Q : ρ → ρ' → Prop} (I : Nat → σ → τ → Prop) (n : Nat) {s : σ} {t : τ} (h0 : I 0 s t)
 (h : ∀ i s t, I i s t → i ≤ n → Tot2 (st1 s) (st2 t) (fun o o' => (∃ s' t', o = .inl s' ∧ o' = .inl t' ∧ i < n ∧ I (i + 1) s' t') ∨ ∃ r r', o = .inr r ∧ o' = .inr r' ∧ Q r r')) : Tot2 (iter st1 s) (iter st2 t) Q := by
 have key : ∀ (k i : Nat) (s : σ) (t : τ), I i s t → i + k = n → Tot2 (iter st1 s) (iter st2 t) Q := by
  intro k
  induction k with
  | zero =>
   intro i s t hI hk
   obtain ⟨o, o', ho, ho', hq⟩ := h i s t hI (by omega)
   rcases hq with ⟨s', t', _, _, hlt, _⟩ | ⟨r, r', rfl, rfl, hq⟩
   ·omega
   ·exact ⟨r, r', iter_inr ho, iter_inr ho', hq⟩
  | succ k ih =>
   intro i s t hI hk
   obtain ⟨o, o', ho, ho', hq⟩ := h i s t hI (by omega)
   rcases hq with ⟨s', t', rfl, rfl, hlt, hI'⟩ | ⟨r, r', rfl, rfl, hq⟩
   ·rw [iter_inl ho, iter_inl ho']
    exact ih (i + 1) s' t' hI' (by omega)
   ·exact ⟨r, r', iter_inr ho, iter_inr ho', hq⟩
 exact key n 0 s t h0 (by omega)

theorem same_ints {a b : List Int} (h : a.length ≤ 9223372036854775806) : spec_l7Same a b = some (decide (a = b)) := by
 refine eqRow h (fun i x y hi hx hy => ?_) ?_ (by unfold spec_l7Same; rfl)
 ·simp only [zao, cond_ne, at_nat, hx, hy, Option.bind_some, Int.ofNat_lt, hi, if_true]
  by_cases he : x = y <;> simp [he]
 ·simp [zao]
theorem equal_ints {a b : List Int} (h : a.length ≤ 9223372036854775806) : slices_Equal_int a b = some (decide (a = b)) := by
 refine eqRow h (fun i x y hi hx hy => ?_) ?_ (by unfold slices_Equal_int; rfl)
 ·simp only [zao, cond_ne, at_nat, hx, hy, Option.bind_some, Int.ofNat_lt, hi, if_true]
  by_cases he : x = y <;> simp [he]
 ·simp [zao]
theorem spec_eqState {a b : TState} (h : tinyS a) : spec_EqualState a b = some (decide (a = b)) := by
 unfold spec_EqualState spec_EqualHeap
 have h1 := h.1
 have h2 := h.2
 rw [same_ints (by omega), same_ints (by omega)]
 rcases a with ⟨a0, a1, a2⟩
 rcases b with ⟨b0, b1, b2⟩
 simp only [Option.bind_some, cond_dec, cond_eq, TState.mk.injEq, THeap.mk.injEq]
 by_cases h0 : a0 = b0 <;> by_cases h1 : a1 = b1 <;> by_cases h2 : a2 = b2 <;> simp [h0, h1, h2]
theorem impl_eqState {a b : TState} (h : tinyS a) : impl_EqualState a b = some (decide (a = b)) := by
 unfold impl_EqualState impl_EqualHeap
 have h1 := h.1
 have h2 := h.2
 rw [equal_ints (by omega), equal_ints (by omega)]
 rcases a with ⟨a0, a1, a2⟩
 rcases b with ⟨b0, b1, b2⟩
 simp only [Option.bind_some, cond_dec, cond_eq, TState.mk.injEq, THeap.mk.injEq]
 by_cases h0 : a0 = b0 <;> by_cases h1 : a1 = b1 <;> by_cases h2 : a2 = b2 <;> simp [h0, h1, h2]

def putS (l : List TState) (s : TState) : List TState := if s ∈ l then l else l ++ [s]
def putM (l : List TMetState) (m : TMetState) : List TMetState := if m.state ∈ l.map (·.state) then l else l ++ [m]
theorem putM_map (l : List TMetState) (m : TMetState) : (putM l m).map (·.state) = putS (l.map (·.state)) m.state := by
 unfold putM putS
 split <;> simp
theorem putM_len (l : List TMetState) (m : TMetState) : l.length ≤ (putM l m).length ∧ (putM l m).length ≤ l.length + 1 := by
 unfold putM
 split <;> simp
theorem putM_all {P : TMetState → Prop} {l : List TMetState} {m : TMetState} (h : ∀ x ∈ l, P x) (hm : P m) : ∀ x ∈ putM l m, P x := by
 unfold putM
 split
 ·exact h
 ·intro x hx
  rcases List.mem_append.1 hx with hx | hx
  ·exact h x hx
  ·rw [List.mem_singleton.1 hx]; exact hm
theorem anyE {α ρ : Type} (p : α → Bool) (rf rt : ρ) : ∀ (xs : List α) (i : Nat), foldE (β := Unit) (fun _ _ x => if p x then some (.inr rf) else some (.inl ())) (fun _ => some rt) () i xs = some (if xs.any p then rf else rt)
 | [], i => by simp [foldE]
 | x :: xs, i => by
  rw [foldE]
  cases hp : p x with
  | true => simp [hp]
  | false => simp only [hp, Bool.false_eq_true, if_false]; rw [anyE p rf rt xs (i + 1)]; simp [hp]
theorem tiny_ok {s : TState} (h : tinyS s) : okH s.heap := ⟨by have := h.1; omega, by have := h.2; omega⟩
theorem spec_put {l : List TState} {s : TState} (hl : l.length ≤ 2000000) (ht : ∀ x ∈ l, tinyS x) (hs : tinyS s) : spec_l9Put l s = some (putS l s) := by
 unfold spec_l9Put
 rw [iter_list l (fun (_ : Unit) i => i) (fun _ i x => if decide (x = s) then some (.inr (.inl l)) else some (.inl ())) (fun _ => some (.inr ())) (fun b i x hx => ?_) (fun b => ?_) (), anyE (fun x => decide (x = s))]
 ·have hmem : (l.any fun x => decide (x = s)) = decide (s ∈ l) := by
   rw [Bool.eq_iff_iff, List.any_eq_true, decide_eq_true_eq]
   constructor
   ·rintro ⟨x, hx, he⟩
    rw [decide_eq_true_eq] at he
    rw [← he]; exact hx
   ·exact fun h => ⟨s, h, by simp⟩
  rw [hmem]
  unfold putS
  by_cases hm : s ∈ l
  ·simp [hm]
  ·simp only [hm, decide_false, Bool.false_eq_true, if_false, Option.bind_some, Sum.elim_inr]
   rw [spec_copy s.heap (tiny_ok hs)]
   simp only [Option.bind_some]
   rw [room_small (by simp; omega) (by omega)]
   rfl
 ·have hlt := (List.getElem?_eq_some_iff.1 hx).1
  simp only [at_nat, hx, Option.bind_some, zao, spec_eqState (ht x (List.mem_of_getElem? hx)), cond_dec]
  rw [if_pos (by omega), addI_eq (by omega) (by omega)]
  by_cases he : x = s <;> simp [he]
 ·simp [zao]
theorem impl_put {l : List TMetState} {s : TState} {f e : Int} (hl : l.length ≤ 2000000) (ht : ∀ x ∈ l, tinyS x.state) : impl_explore_2 s f e l = some (putM l ⟨s, f, e⟩) := by
 unfold impl_explore_2 slices_ContainsFunc_metState slices_IndexFunc_metState
 rw [indexF l (fun x0 => impl_explore_2_1 x0 s) (fun x => decide (x.state = s)) (fun x hx => by unfold impl_explore_2_1; rw [impl_eqState (ht x hx)]; rfl) (by unfold small; omega)]
 have hc := containsF_of l (fun x : TMetState => decide (x.state = s))
 have hm : (l.any fun x => decide (x.state = s)) = decide (s ∈ l.map (·.state)) := by
  rw [Bool.eq_iff_iff, List.any_eq_true, decide_eq_true_eq, List.mem_map]
  constructor
  ·rintro ⟨x, hx, he⟩
   exact ⟨x, hx, by simpa using he⟩
  ·rintro ⟨x, hx, he⟩
   exact ⟨x, hx, by simpa using he⟩
 rw [hm] at hc
 have key : ∀ z : Int, leI 0 z = decide (s ∈ l.map (·.state)) → ((cond (leI 0 z) (some l) ((room (l.length + [(⟨s, f, e⟩ : TMetState)].length) 72).bind fun _ => some (l ++ [(⟨s, f, e⟩ : TMetState)]))) : Option (List TMetState)) = some (putM l ⟨s, f, e⟩) := fun z hz => by
  rw [hz, cond_dec, room_small (by simp; omega) (by omega)]
  unfold putM
  by_cases hq : s ∈ l.map (·.state)
  ·rw [if_pos hq, if_pos hq]
  ·rw [if_neg hq, if_neg hq]; rfl
 generalize l.findIdx? (fun x : TMetState => decide (x.state = s)) = o at hc ⊢
 cases o with
 | none => exact key _ hc
 | some j => exact key _ hc
theorem edges_same : impl_EdgesFrom = spec_EdgesFrom := rfl
theorem edges_ok (p : TProgram) (hp : p.edges.length ≤ 100) (pt : Int) : ∃ r, spec_EdgesFrom p pt = some r ∧ r.length ≤ p.edges.length ∧ ∀ e ∈ r, 0 ≤ e ∧ e < (p.edges.length : Int) := by
 unfold spec_EdgesFrom
 refine Tot.bind (P := fun r : List Int => r.length ≤ p.edges.length ∧ ∀ e ∈ r, 0 ≤ e ∧ e < (p.edges.length : Int)) ?_ fun r hr => Tot.ret hr
 refine Tot.loop (fun i (s : List Int × Int) => s.2 = (i : Int) ∧ s.1.length ≤ i ∧ ∀ e ∈ s.1, 0 ≤ e ∧ e < (p.edges.length : Int)) p.edges.length ⟨rfl, by simp, by simp⟩ fun i s hI hi => ?_
 obtain ⟨l, j⟩ := s
 obtain ⟨h1, h2, h3⟩ := hI
 simp only at h1 h2 h3
 subst h1
 rw [zao]
 by_cases hlt : (i : Int) < (p.edges.length : Int)
 ·rw [if_pos hlt]
  have hx : at? p.edges (i : Int) = some p.edges[i] := by rw [at_nat]; exact List.getElem?_eq_getElem (by omega)
  simp only [hx, Option.bind_some, cond_eq]
  rw [addI_eq (by omega) (by omega)]
  split
  ·rw [room_small (by simp; omega) (by omega)]
   refine Tot.ret ⟨by omega, rfl, by simp only [List.length_append, List.length_singleton]; omega, fun e he => ?_⟩
   rcases List.mem_append.1 he with he | he
   ·exact h3 e he
   ·rw [List.mem_singleton.1 he]; omega
  ·exact Tot.ret ⟨by omega, rfl, by show l.length ≤ i + 1; omega, h3⟩
 ·rw [if_neg hlt]
  exact Tot.ret ⟨by show l.length ≤ _; omega, h3⟩
end Go.Ev


namespace Go.Ev
open Wf (wf)
open Sm (sm lg)
theorem pr_edges {p : TProgram} (h : prB p = true) : p.edges.length ≤ 24 := by
 unfold prB at h
 simp only [Bool.and_eq_true, decide_eq_true_eq] at h
 omega
theorem tiny_start {p : TProgram} {h : THeap} (hh : isHeapB (p.vars.length : Int) h = true) : tinyS ⟨0, h⟩ := by
 have g := good_of hh
 have h1 := g.v1
 have h2 := g.v2
 have h3 := g.n1
 exact ⟨by show h.vars.length ≤ 4; omega, by show h.next.length ≤ 7; omega⟩
structure Sims (l : List TState) (m : List TMetState) (n : Nat) : Prop where
 eq : l = m.map (·.state)
 len : m.length ≤ n
 tiny : ∀ x ∈ m, tinyS x.state
theorem Sims.lt {l : List TState} {m : List TMetState} {n : Nat} (h : Sims l m n) : ∀ x ∈ l, tinyS x := fun x hx => by
 rw [h.eq, List.mem_map] at hx
 obtain ⟨y, hy, rfl⟩ := hx
 exact h.tiny y hy
theorem Sims.ll {l : List TState} {m : List TMetState} {n : Nat} (h : Sims l m n) : l.length = m.length := by rw [h.eq, List.length_map]
theorem Sims.put {l : List TState} {m : List TMetState} {n : Nat} (h : Sims l m n) {s : TState} (hs : tinyS s) (f e : Int) : Sims (putS l s) (putM m ⟨s, f, e⟩) (n + 1) :=
 ⟨by rw [putM_map, h.eq], by have := (putM_len m ⟨s, f, e⟩).2; have := h.len; omega, putM_all h.tiny hs⟩
theorem Sims.mono {l : List TState} {m : List TMetState} {n k : Nat} (h : Sims l m n) (hk : n ≤ k) : Sims l m k := ⟨h.eq, Nat.le_trans h.len hk, h.tiny⟩

theorem start_bad (p : TProgram) (start : List THeap) (hs : start.length ≤ 1048576) (hg : ¬ ∀ h ∈ start, isHeapB (p.vars.length : Int) h = true) :
 iter (ρ := (Unit) ⊕ ((List TState))) (fun s_5 : (List TState) × Int =>
  cond (ltI s_5.2 (start.length : Int))
   ((at? start s_5.2).bind fun e_17 =>
    (spec_IsHeap (p.vars.length : Int) e_17).bind fun y_22 =>
     cond y_22
      ((at? start s_5.2).bind fun _ =>
       (spec_l9Put s_5.1 (⟨0, e_17⟩ : TState)).bind fun y_33 =>
        some (.inl (y_33, addI s_5.2 1)))
      (some (.inr (.inl ()))))
   (some (.inr (.inr s_5.1)))) ([], 0) = some (.inl ()) := by
 refine Tot.eq (Tot.loop (fun i (s : (List TState) × Int) => s.2 = (i : Int) ∧ s.1.length ≤ i ∧ (∀ x ∈ s.1, tinyS x) ∧ ∀ j h, j < i → start[j]? = some h → isHeapB (p.vars.length : Int) h = true) start.length ⟨rfl, by simp, by simp, fun j h hj => by omega⟩ fun i s hI hi => ?_)
 obtain ⟨l, j⟩ := s
 obtain ⟨h1, h2, h3, h4⟩ := hI
 simp only at h1 h2 h3
 subst h1
 simp only [zao]
 by_cases hlt : (i : Int) < (start.length : Int)
 ·rw [if_pos hlt]
  have hi2 : i < start.length := by omega
  have hx : at? start (i : Int) = some start[i] := by rw [at_nat]; exact List.getElem?_eq_getElem hi2
  simp only [hx, Option.bind_some, spec_isHeap]
  cases hq : isHeapB (p.vars.length : Int) start[i] with
  | false => exact Tot.ret rfl
  | true =>
   have ht := tiny_start hq
   simp only [cond_true, spec_put (l := l) (by omega) h3 ht, Option.bind_some]
   rw [addI_eq (by omega) (by omega)]
   refine Tot.ret ⟨hi2, rfl, ?_, ?_, fun j h hj hh => ?_⟩
   ·show (putS l _).length ≤ i + 1
    unfold putS
    split
    ·omega
    ·simp; omega
   ·intro x hx
    have hx : x ∈ putS l ⟨0, start[i]⟩ := hx
    unfold putS at hx
    split at hx
    ·exact h3 x hx
    ·rcases List.mem_append.1 hx with hx | hx
     ·exact h3 x hx
     ·rw [List.mem_singleton.1 hx]; exact ht
   ·rcases Nat.lt_or_ge j i with hj2 | hj2
    ·exact h4 j h hj2 hh
    ·have : j = i := by omega
     subst this
     rw [List.getElem?_eq_getElem hi2] at hh
     cases hh
     exact hq
 ·exfalso
  refine hg fun h hh => ?_
  obtain ⟨j, hj, he⟩ := List.mem_iff_getElem.1 hh
  exact h4 j h (by omega) (by rw [List.getElem?_eq_getElem hj, he])

end Go.Ev


namespace Go.Ev
open Wf (wf)
open Sm (sm lg)
def exF (p : TProgram) (e : Int) (h : THeap) : THeap × Int := (spec_Exec p.vars (p.edges.getD e.toNat zE).stmt h).getD (⟨[], []⟩, 7)
def edF (p : TProgram) (pt : Int) : List Int := (spec_EdgesFrom p pt).getD []
def hit (p : TProgram) (h : THeap) (e : Int) : Option TState := if (exF p e h).2 = 0 then some ⟨(p.edges.getD e.toNat zE).to_, (exF p e h).1⟩ else none
def First (p : TProgram) (m : List TMetState) (j : Nat) (x : TMetState) : Prop :=
 ∃ (k : Nat) (y : TMetState), x.from_ = (k : Int) ∧ k < j ∧ m[k]? = some y ∧
  (∃ es1 es2, edF p y.state.point = es1 ++ x.edge :: es2 ∧ hit p y.state.heap x.edge = some x.state ∧ ∀ e ∈ es1, hit p y.state.heap e ≠ some x.state) ∧
  ∀ (k' : Nat) (z : TMetState), k' < k → m[k']? = some z → ∀ e ∈ edF p z.state.point, hit p z.state.heap e ≠ some x.state
theorem First.app {p : TProgram} {m t : List TMetState} {j : Nat} {x : TMetState} (h : First p m j x) (hj : j ≤ m.length) : First p (m ++ t) j x := by
 obtain ⟨k, y, h1, h2, h3, h4, h5⟩ := h
 refine ⟨k, y, h1, h2, by rw [List.getElem?_append_left (by omega)]; exact h3, h4, fun k' z hk hz => h5 k' z hk ?_⟩
 rw [List.getElem?_append_left (by omega)] at hz
 exact hz
structure Simc (p : TProgram) (c : Nat) (l : List TState) (m : List TMetState) (n : Nat) : Prop where
 sims : Sims l m n
 nd : (m.map (·.state)).Nodup
 root : ∀ j x, m[j]? = some x → j < c → x.from_ = -1
 hit : ∀ j x, m[j]? = some x → c ≤ j → First p m j x
theorem Simc.mono {p : TProgram} {c : Nat} {l : List TState} {m : List TMetState} {n k : Nat} (h : Simc p c l m n) (hk : n ≤ k) : Simc p c l m k := ⟨h.sims.mono hk, h.nd, h.root, h.hit⟩
theorem Simc.fix {p : TProgram} {c : Nat} {l : List TState} {m : List TMetState} {n : Nat} (h : Simc p c l m n) (hc : m.length ≤ c) : Simc p m.length l m n :=
 ⟨h.sims, h.nd, fun j x hx hj => h.root j x hx (by omega), fun j x hx hj => by have := (List.getElem?_eq_some_iff.1 hx).1; omega⟩
theorem putM_app (l : List TMetState) (m : TMetState) : ∃ t, putM l m = l ++ t := by
 unfold putM
 split
 ·exact ⟨[], by simp⟩
 ·exact ⟨[m], rfl⟩
theorem putM_in (l : List TMetState) (m : TMetState) : m.state ∈ (putM l m).map (·.state) := by
 unfold putM
 split
 ·assumption
 ·simp
theorem Simc.put {p : TProgram} {c : Nat} {l : List TState} {m : List TMetState} {n : Nat} (h : Simc p c l m n) {s : TState} (hs : tinyS s) (f e : Int)
 (hr : s ∉ m.map (·.state) → (m.length < c → f = -1) ∧ (c ≤ m.length → First p m m.length ⟨s, f, e⟩)) : Simc p c (putS l s) (putM m ⟨s, f, e⟩) (n + 1) := by
 refine ⟨h.sims.put hs f e, ?_, ?_, ?_⟩
 ·unfold putM
  split
  ·exact h.nd
  ·rename_i hn
   rw [List.map_append, List.nodup_append]
   refine ⟨h.nd, by simp, fun a ha b hb => ?_⟩
   simp only [List.map_cons, List.map_nil, List.mem_singleton] at hb
   rintro rfl
   exact hn (hb ▸ ha)
 ·intro j x hx hj
  unfold putM at hx
  split at hx
  ·exact h.root j x hx hj
  ·rename_i hn
   rcases Nat.lt_or_ge j m.length with hlt | hge
   ·rw [List.getElem?_append_left hlt] at hx
    exact h.root j x hx hj
   ·have hl := (List.getElem?_eq_some_iff.1 hx).1
    have : j = m.length := by simp at hl; omega
    subst this
    rw [List.getElem?_append_right (Nat.le_refl _)] at hx
    simp at hx
    subst hx
    exact (hr hn).1 hj
 ·intro j x hx hj
  unfold putM at hx ⊢
  split at hx
  ·rename_i hn
   rw [if_pos hn]
   exact h.hit j x hx hj
  ·rename_i hn
   rw [if_neg hn]
   rcases Nat.lt_or_ge j m.length with hlt | hge
   ·rw [List.getElem?_append_left hlt] at hx
    exact (h.hit j x hx hj).app (by omega)
   ·have hl := (List.getElem?_eq_some_iff.1 hx).1
    have : j = m.length := by simp at hl; omega
    subst this
    rw [List.getElem?_append_right (Nat.le_refl _)] at hx
    simp at hx
    subst hx
    exact ((hr hn).2 hj).app (Nat.le_refl _)
def startL (start : List THeap) : List TState := start.foldl (fun a h => putS a ⟨0, h⟩) []
theorem startL_snoc (start : List THeap) (i : Nat) (hi : i < start.length) : startL (start.take (i + 1)) = putS (startL (start.take i)) ⟨0, start[i]⟩ := by
 unfold startL
 rw [take_snoc1 hi, List.foldl_append]
 rfl

theorem start_c (p : TProgram) (start : List THeap) (hs : start.length ≤ 1048576) (hg : ∀ h ∈ start, isHeapB (p.vars.length : Int) h = true) :
 Tot2 (iter (ρ := (Unit) ⊕ ((List TState))) (fun s_5 : (List TState) × Int =>
  cond (ltI s_5.2 (start.length : Int))
   ((at? start s_5.2).bind fun e_17 =>
    (spec_IsHeap (p.vars.length : Int) e_17).bind fun y_22 =>
     cond y_22
      ((at? start s_5.2).bind fun _ =>
       (spec_l9Put s_5.1 (⟨0, e_17⟩ : TState)).bind fun y_33 =>
        some (.inl (y_33, addI s_5.2 1)))
      (some (.inr (.inl ()))))
   (some (.inr (.inr s_5.1)))) ([], 0))
  (iter (ρ := (List TMetState)) (fun s_8 : Int × (List TMetState) =>
   cond (ltI s_8.1 (start.length : Int))
    ((at? start s_8.1).bind fun e_24 =>
     (impl_Heap_own e_24).bind fun y_30 =>
      (impl_explore_2 (⟨0, y_30⟩ : TState) (-1) (-1) s_8.2).bind fun y_35 =>
       some (.inl (addI s_8.1 1, y_35)))
    (some (.inr s_8.2))) (0, [])) (fun r r' => ∃ l, r = .inr l ∧ Simc p (startL start).length l r' 1048576 ∧ (startL start).length ≤ r'.length) := by
 refine Tot2.loop (fun i (s : (List TState) × Int) (t : Int × (List TMetState)) => s.2 = (i : Int) ∧ t.1 = (i : Int) ∧ Simc p 1048577 s.1 t.2 i ∧ s.1 = startL (start.take i)) start.length ⟨rfl, rfl, ⟨⟨rfl, Nat.zero_le _, by simp⟩, by simp, by simp, by simp⟩, rfl⟩ fun i s t hI hi => ?_
 obtain ⟨l, j⟩ := s
 obtain ⟨j', m⟩ := t
 obtain ⟨h1, h2, h3, h6⟩ := hI
 simp only at h1 h2 h3 h6
 subst h1
 subst h2
 simp only [zao]
 have h4 := h3.sims.len
 have h5 := h3.sims.ll
 by_cases hlt : (i : Int) < (start.length : Int)
 ·rw [if_pos hlt, if_pos hlt]
  have hi2 : i < start.length := by omega
  have hx : at? start (i : Int) = some start[i] := by rw [at_nat]; exact List.getElem?_eq_getElem hi2
  have hq := hg _ (List.getElem_mem hi2)
  have g := good_of hq
  have ht := tiny_start hq
  simp only [hx, Option.bind_some, spec_isHeap, hq, cond_true, impl_own _ g.ok.v g.ok.n, spec_put (l := l) (by omega) h3.sims.lt ht, impl_put (l := m) (by omega) h3.sims.tiny]
  rw [addI_eq (by omega) (by omega)]
  refine Tot2.ret (.inl ⟨_, _, rfl, rfl, hi2, rfl, rfl, h3.put ht _ _ fun _ => ⟨fun _ => rfl, fun hc => by omega⟩, ?_⟩)
  show putS l _ = _
  rw [startL_snoc start i hi2, ← h6]
 ·rw [if_neg hlt, if_neg hlt]
  rw [List.take_of_length_le (by omega)] at h6
  subst h6
  have hf := (h3.fix (by omega)).mono (k := 1048576) (by omega)
  rw [← h5] at hf
  exact Tot2.ret (.inr ⟨_, _, rfl, rfl, _, rfl, hf, by show (startL start).length ≤ m.length; omega⟩)
def Done (p : TProgram) (i : Nat) (m : List TMetState) : Prop := ∀ (k' : Nat) (z : TMetState), k' < i → m[k']? = some z → ∀ e ∈ edF p z.state.point, ∀ t, hit p z.state.heap e = some t → t ∈ m.map (·.state)
theorem Done.app {p : TProgram} {i : Nat} {m t : List TMetState} (h : Done p i m) (hi : i ≤ m.length) : Done p i (m ++ t) := fun k' z hk hz e he s hs => by
 rw [List.getElem?_append_left (by omega)] at hz
 rw [List.map_append]
 exact List.mem_append_left _ (h k' z hk hz e he s hs)
theorem round_c (p : TProgram) (hn : smN p.vars) (c k : Nat) (y : TMetState) (es : List Int) (hed : edF p y.state.point = es) (hes : es.length ≤ 24) (hin : ∀ e ∈ es, 0 ≤ e ∧ e < (p.edges.length : Int)) (l : List TState) (m : List TMetState) (hR : Simc p c l m 200) (hk : m[k]? = some y) (hc : c ≤ m.length) (hd : Done p k m) :
 Tot2 (iter (ρ := (List TState)) (fun s_68 : (List TState) × Int =>
           cond (ltI s_68.2 (es.length : Int))
            ((at? es s_68.2).bind fun e_81 =>
             (at? p.edges e_81).bind fun e_86 =>
              (at? s_68.1 (k : Int)).bind fun e_92 =>
               (spec_Exec p.vars e_86.stmt e_92.heap).bind fun y_97 =>
                cond (eqI y_97.2 0)
                 ((spec_l9Put s_68.1 (⟨e_86.to_, y_97.1⟩ : TState)).bind fun y_104 =>
                  some (.inl (y_104, addI s_68.2 1)))
                 (some (.inl (s_68.1, addI s_68.2 1))))
            (some (.inr s_68.1))) (l, 0))
 (iter (ρ := (List TMetState)) (fun s_70 : Int × (List TMetState) =>
           cond (ltI s_70.1 (es.length : Int))
            ((at? es s_70.1).bind fun e_87 =>
             (at? p.edges e_87).bind fun e_92 =>
              (at? s_70.2 (k : Int)).bind fun e_97 =>
               (impl_Exec p.vars e_92.stmt e_97.state.heap).bind fun y_102 =>
                cond (eqI y_102.2 0)
                 ((at? p.edges e_87).bind fun _ =>
                  (impl_explore_2 (⟨e_92.to_, y_102.1⟩ : TState) (k : Int) e_87 s_70.2).bind fun y_114 =>
                   some (.inl (addI s_70.1 1, y_114)))
                 (some (.inl (addI s_70.1 1, s_70.2))))
            (some (.inr s_70.2))) (0, m)) (fun r r' => Simc p c r r' 1048576 ∧ c ≤ r'.length ∧ Done p (k + 1) r') := by
 have hkl := (List.getElem?_eq_some_iff.1 hk).1
 refine Tot2.loop (fun i (s : (List TState) × Int) (t : Int × (List TMetState)) => s.2 = (i : Int) ∧ t.1 = (i : Int) ∧ Simc p c s.1 t.2 (200 + i) ∧ (∃ a, t.2 = m ++ a) ∧ ∀ e ∈ es.take i, ∀ t', hit p y.state.heap e = some t' → t' ∈ t.2.map (·.state)) es.length ⟨rfl, rfl, hR, ⟨[], by simp⟩, by simp⟩ fun i s t hI hi => ?_
 obtain ⟨l, j⟩ := s
 obtain ⟨j', m'⟩ := t
 obtain ⟨h1, h2, h3, ⟨a, h6⟩, h7⟩ := hI
 simp only at h1 h2 h3 h6 h7
 subst h1
 subst h2
 have hd' : Done p k m' := by rw [h6]; exact hd.app (by omega)
 have hk' : m'[k]? = some y := by rw [h6, List.getElem?_append_left hkl]; exact hk
 have hl' : m.length ≤ m'.length := by rw [h6]; simp
 simp only [zao]
 by_cases hlt : (i : Int) < (es.length : Int)
 ·rw [if_pos hlt, if_pos hlt]
  have hi2 : i < es.length := by omega
  have hx : at? es (i : Int) = some es[i] := by rw [at_nat]; exact List.getElem?_eq_getElem hi2
  have he := hin _ (List.getElem_mem hi2)
  have hy : at? p.edges es[i] = some (p.edges.getD es[i].toNat zE) := at_in' he zE
  have h4 := h3.sims.len
  have h5 := h3.sims.ll
  have hz : at? m' (k : Int) = some y := by rw [at_nat]; exact hk'
  have hz2 : at? l (k : Int) = some y.state := by rw [at_nat, h3.sims.eq, List.getElem?_map, hk']; rfl
  obtain ⟨r, hr⟩ := exec_both p.vars (p.edges.getD es[i].toNat zE).stmt y.state.heap hn
  have hex : exF p es[i] y.state.heap = r := by unfold exF; rw [hr.spec]; rfl
  simp only [hx, hy, hz, hz2, Option.bind_some, hr.spec, hr.impl, cond_eq]
  rw [addI_eq (by omega) (by omega)]
  by_cases hc0 : r.2 = 0
  ·have ht : tinyS ⟨(p.edges.getD es[i].toNat zE).to_, r.1⟩ := hr.tiny
   have hh : hit p y.state.heap es[i] = some ⟨(p.edges.getD es[i].toNat zE).to_, r.1⟩ := by unfold hit; rw [hex, if_pos hc0]
   rw [if_pos hc0, if_pos hc0, spec_put (l := l) (by omega) h3.sims.lt ht, impl_put (l := m') (by omega) h3.sims.tiny]
   simp only [Option.bind_some]
   obtain ⟨b, hb⟩ := putM_app m' ⟨⟨(p.edges.getD es[i].toNat zE).to_, r.1⟩, (k : Int), es[i]⟩
   refine Tot2.ret (.inl ⟨_, _, rfl, rfl, hi2, rfl, rfl, h3.put ht _ _ fun hnew => ⟨fun hcc => by omega, fun _ => ⟨k, y, rfl, by omega, hk', ⟨es.take i, es.drop (i + 1), ?_, hh, fun e he2 h8 => hnew (h7 e he2 _ h8)⟩, fun k2 z hk2 hz3 e he2 h8 => hnew (hd' k2 z hk2 hz3 e he2 _ h8)⟩⟩, ?_, ?_⟩)
   ·rw [hed, ← List.drop_eq_getElem_cons hi2, List.take_append_drop]
   ·exact ⟨a ++ b, by show putM m' _ = _; rw [hb, h6, List.append_assoc]⟩
   ·intro e he2 t' ht'
    rw [take_snoc1 hi2] at he2
    rcases List.mem_append.1 he2 with he2 | he2
    ·show t' ∈ (putM m' _).map _
     rw [hb, List.map_append]
     exact List.mem_append_left _ (h7 e he2 t' ht')
    ·rw [List.mem_singleton.1 he2, hh] at ht'
     cases ht'
     exact putM_in m' ⟨⟨(p.edges.getD es[i].toNat zE).to_, r.1⟩, (k : Int), es[i]⟩
  ·rw [if_neg hc0, if_neg hc0]
   refine Tot2.ret (.inl ⟨_, _, rfl, rfl, hi2, rfl, rfl, h3.mono (by omega), ⟨a, h6⟩, fun e he2 t' ht' => ?_⟩)
   rw [take_snoc1 hi2] at he2
   rcases List.mem_append.1 he2 with he2 | he2
   ·exact h7 e he2 t' ht'
   ·rw [List.mem_singleton.1 he2] at ht'
    unfold hit at ht'
    rw [hex, if_neg hc0] at ht'
    cases ht'
 ·rw [if_neg hlt, if_neg hlt]
  refine Tot2.ret (.inr ⟨_, _, rfl, rfl, h3.mono (by omega), Nat.le_trans hc hl', fun k2 z hk2 hz e he t' ht' => ?_⟩)
  rcases Nat.lt_or_ge k2 k with hk3 | hk3
  ·exact hd' k2 z hk3 hz e he t' ht'
  ·have : k2 = k := by omega
   subst this
   have hz : m'[k2]? = some z := hz
   rw [hk'] at hz
   cases hz
   rw [hed] at he
   exact h7 e (by rw [List.take_of_length_le (by omega)]; exact he) t' ht'
theorem explore_c (p : TProgram) (start : List THeap) (hp : smP p) (hs : start.length ≤ 1048576) :
 ∃ r : List TMetState × Bool, impl_explore p start = some r ∧ spec_StatesFrom p start = some (if r.2 then r.1.map (·.state) else [], r.2) ∧ (r.2 = true → prB p = true ∧ r.1.length ≤ 200 ∧ Simc p (startL start).length (r.1.map (·.state)) r.1 1048576 ∧ ∀ h ∈ start, isHeapB (p.vars.length : Int) h = true) := by
 unfold impl_explore spec_StatesFrom
 rw [spec_isProgram p hp, impl_isProgram p hp]
 cases hpr : prB p with
 | false => exact ⟨_, rfl, rfl, by simp⟩
 | true =>
 have hed := pr_edges hpr
 have hany : slices_ContainsFunc_Heap start (fun x0 => impl_explore_1 x0 p) = some (start.any fun h => !isHeapB (p.vars.length : Int) h) := by
  unfold slices_ContainsFunc_Heap slices_IndexFunc_Heap
  rw [indexF start (fun x0 => impl_explore_1 x0 p) (fun h => !isHeapB (p.vars.length : Int) h) (fun x hx => by unfold impl_explore_1; rw [impl_isHeap]; simp [notB]) (by unfold small; omega), ← containsF_of]
  generalize start.findIdx? _ = o
  cases o <;> rfl
 simp only [Option.bind_some, cond_true, hany]
 by_cases hg : ∀ h ∈ start, isHeapB (p.vars.length : Int) h = true
 ·have hf : (start.any fun h => !isHeapB (p.vars.length : Int) h) = false := by
   rw [List.any_eq_false]
   intro h hh
   simp [hg h hh]
  rw [hf]
  simp only [cond_false]
  obtain ⟨a, m0, e1, e2, l0, rfl, hR, hc0⟩ := start_c p start hs hg
  rw [e1, e2]
  simp only [Option.bind_some, Sum.elim_inr]
  have hout : Tot2 (iter (ρ := (List TState)) (fun s_48 : (List TState) × Int =>
   cond (ltI s_48.2 (s_48.1.length : Int))
    (cond (leI (s_48.1.length : Int) 200)
     ((at? s_48.1 s_48.2).bind fun e_60 =>
      (spec_EdgesFrom p e_60.point).bind fun y_65 =>
       (iter (ρ := (List TState)) (fun s_68 : (List TState) × Int =>
        cond (ltI s_68.2 (y_65.length : Int))
         ((at? y_65 s_68.2).bind fun e_81 =>
          (at? p.edges e_81).bind fun e_86 =>
           (at? s_68.1 s_48.2).bind fun e_92 =>
            (spec_Exec p.vars e_86.stmt e_92.heap).bind fun y_97 =>
             cond (eqI y_97.2 0)
              ((spec_l9Put s_68.1 (⟨e_86.to_, y_97.1⟩ : TState)).bind fun y_104 =>
               some (.inl (y_104, addI s_68.2 1)))
              (some (.inl (s_68.1, addI s_68.2 1))))
         (some (.inr s_68.1))) (s_48.1, 0)).bind fun r_107 =>
        some (.inl (r_107, addI s_48.2 1)))
     (some (.inr s_48.1)))
    (some (.inr s_48.1))) (l0, 0))
   (iter (ρ := (List TMetState)) (fun s_47 : Int × (List TMetState) =>
    cond (ltI s_47.1 (s_47.2.length : Int))
     (cond (leI (s_47.2.length : Int) 200)
      ((at? s_47.2 s_47.1).bind fun e_62 =>
       (impl_EdgesFrom p e_62.state.point).bind fun y_67 =>
        (iter (ρ := (List TMetState)) (fun s_70 : Int × (List TMetState) =>
         cond (ltI s_70.1 (y_67.length : Int))
          ((at? y_67 s_70.1).bind fun e_87 =>
           (at? p.edges e_87).bind fun e_92 =>
            (at? s_70.2 s_47.1).bind fun e_97 =>
             (impl_Exec p.vars e_92.stmt e_97.state.heap).bind fun y_102 =>
              cond (eqI y_102.2 0)
               ((at? p.edges e_87).bind fun _ =>
                (impl_explore_2 (⟨e_92.to_, y_102.1⟩ : TState) s_47.1 e_87 s_70.2).bind fun y_114 =>
                 some (.inl (addI s_70.1 1, y_114)))
               (some (.inl (addI s_70.1 1, s_70.2))))
          (some (.inr s_70.2))) (0, s_47.2)).bind fun r_116 =>
         some (.inl (addI s_47.1 1, r_116)))
      (some (.inr s_47.2)))
     (some (.inr s_47.2))) (0, m0)) (fun r r' => Simc p (startL start).length r r' 1048576) := by
   refine Tot2.loop (fun i (s : (List TState) × Int) (t : Int × (List TMetState)) => s.2 = (i : Int) ∧ t.1 = (i : Int) ∧ Simc p (startL start).length s.1 t.2 1048576 ∧ (startL start).length ≤ t.2.length ∧ Done p i t.2) 201 ⟨rfl, rfl, hR, hc0, fun k' z hk => by omega⟩ fun i s t hI hi => ?_
   obtain ⟨l, j⟩ := s
   obtain ⟨j', m⟩ := t
   obtain ⟨h1, h2, h3, h7, h8⟩ := hI
   simp only at h1 h2 h3 h7 h8
   subst h1
   subst h2
   have h5 := h3.sims.ll
   simp only [zao, cond_le, h5]
   by_cases hlt : (i : Int) < (m.length : Int)
   ·rw [if_pos hlt, if_pos hlt]
    by_cases hle : (m.length : Int) ≤ 200
    ·rw [if_pos hle, if_pos hle]
     have hk : i < m.length := by omega
     have hk2 : m[i]? = some m[i] := List.getElem?_eq_getElem hk
     have hz : at? m (i : Int) = some m[i] := by rw [at_nat]; exact hk2
     have hz2 : at? l (i : Int) = some m[i].state := by rw [at_nat, h3.sims.eq, List.getElem?_map, List.getElem?_eq_getElem hk]; rfl
     obtain ⟨es, e3, e4, e5⟩ := edges_ok p (by omega) m[i].state.point
     simp only [hz, hz2, Option.bind_some, edges_same, e3]
     obtain ⟨r, r', e6, e7, hR2, hc2, hd2⟩ := round_c p hp.1 (startL start).length i m[i] es (by unfold edF; rw [e3]; rfl) (by omega) e5 l m ⟨⟨h3.sims.eq, by omega, h3.sims.tiny⟩, h3.nd, h3.root, h3.hit⟩ hk2 h7 h8
     simp only [zao] at e6 e7
     rw [e6, e7]
     simp only [Option.bind_some]
     rw [addI_eq (by omega) (by omega)]
     exact Tot2.ret (.inl ⟨_, _, rfl, rfl, by omega, rfl, rfl, hR2, hc2, hd2⟩)
    ·rw [if_neg hle, if_neg hle]
     exact Tot2.ret (.inr ⟨_, _, rfl, rfl, h3⟩)
   ·rw [if_neg hlt, if_neg hlt]
    exact Tot2.ret (.inr ⟨_, _, rfl, rfl, h3⟩)
  obtain ⟨r, r', e3, e4, hR2⟩ := hout
  rw [e3, e4]
  simp only [Option.bind_some, zao, hR2.sims.ll]
  by_cases hle : (r'.length : Int) ≤ 200
  ·rw [if_neg (by omega)]
   refine ⟨_, rfl, ?_, fun _ => ⟨trivial, by show r'.length ≤ 200; omega, ?_, hg⟩⟩
   ·simp [leI, hle, hR2.sims.eq]
   ·have := hR2.sims.eq
    subst this
    exact hR2
  ·rw [if_pos (by omega)]
   refine ⟨_, rfl, ?_, fun h => absurd h (by simp [leI, hle])⟩
   simp [leI, hle]
 ·have hf : (start.any fun h => !isHeapB (p.vars.length : Int) h) = true := by
   cases ha : (start.any fun h => !isHeapB (p.vars.length : Int) h) with
   | true => rfl
   | false =>
    rw [List.any_eq_false] at ha
    exact absurd (fun h hh => by have := ha h hh; simpa using this) hg
  rw [hf, start_bad p start hs hg]
  exact ⟨_, rfl, rfl, by simp⟩
end Go.Ev


namespace Go.Ev
open Wf (wf)
open Sm (sm lg)
theorem isErr_eq (c : Int) : impl_IsError c = some (decide (2 ≤ c ∧ c ≤ 5)) ∧ spec_IsError c = some (decide (2 ≤ c ∧ c ≤ 5)) := by
 unfold impl_IsError spec_IsError
 rw [within_eq, l1In_eq]
 exact ⟨rfl, rfl⟩
theorem reverse_ok (xs : List Int) (h : xs.length ≤ 4000000) : slices_Reverse_int xs = some xs.reverse := by
 unfold slices_Reverse_int
 refine Tot.eq (Tot.bind (P := (· = xs.reverse)) (Tot.loop (fun i (s : Int × Int × List Int) => s.1 = (i : Int) ∧ s.2.1 = (xs.length : Int) - 1 - i ∧ s.2.2.length = xs.length ∧ ∀ k, k < xs.length → s.2.2[k]? = if k < i ∨ xs.length ≤ k + i then xs[xs.length - 1 - k]? else xs[k]?) xs.length ⟨rfl, by rw [subI_eq (by omega) (by omega)]; simp, rfl, fun k hk => by rw [if_neg (by omega)]⟩ fun i s hI hi => ?_) fun r hr => Tot.ret hr)
 obtain ⟨a, b, l⟩ := s
 obtain ⟨h1, h2, h3, h4⟩ := hI
 simp only at h1 h2 h3 h4
 subst h1
 subst h2
 simp only [zao]
 by_cases hlt : (i : Int) < (xs.length : Int) - 1 - i
 ·rw [if_pos hlt]
  obtain ⟨j, hj⟩ : ∃ j : Nat, (xs.length : Int) - 1 - i = (j : Int) := ⟨xs.length - 1 - i, by omega⟩
  rw [hj] at hlt ⊢
  have hj1 : at? l (j : Int) = some l[j] := by rw [at_nat]; exact List.getElem?_eq_getElem (by omega)
  have hi1 : at? l (i : Int) = some l[i] := by rw [at_nat]; exact List.getElem?_eq_getElem (by omega)
  have hj2 : at? (l.set i l[j]) (j : Int) = some l[j] := by
   rw [at_nat, List.getElem?_set_ne (by omega)]; exact List.getElem?_eq_getElem (by omega)
  simp only [hj1, hi1, Option.bind_some, Int.toNat_natCast, hj2]
  rw [addI_eq (by omega) (by omega), subI_eq (by omega) (by omega)]
  refine Tot.ret ⟨by omega, rfl, by show (j : Int) - 1 = (xs.length : Int) - 1 - ((i + 1 : Nat) : Int); omega, by simp [h3], fun k hk => ?_⟩
  have e1 := h4 i (by omega)
  have e2 := h4 j (by omega)
  rw [if_neg (by omega), List.getElem?_eq_getElem (by omega)] at e1 e2
  show ((l.set i l[j]).set j l[i])[k]? = _
  by_cases hk1 : k = j
  ·subst hk1
   rw [List.getElem?_set_self (by simp; omega), if_pos (by omega), e1]
   congr 1
   omega
  ·rw [List.getElem?_set_ne (by omega)]
   by_cases hk2 : k = i
   ·subst hk2
    rw [List.getElem?_set_self (by omega), if_pos (by omega), e2]
    congr 1
    omega
   ·rw [List.getElem?_set_ne (by omega), h4 k hk]
    by_cases hc : k < i ∨ xs.length ≤ k + i
    ·rw [if_pos hc, if_pos (by omega)]
    ·rw [if_neg hc, if_neg (by omega)]
 ·rw [if_neg hlt]
  refine Tot.ret ?_
  show l = xs.reverse
  apply List.ext_getElem?
  intro k
  rcases Nat.lt_or_ge k xs.length with hk | hk
  ·rw [h4 k hk, List.getElem?_reverse hk]
   by_cases hc : k < i ∨ xs.length ≤ k + i
   ·rw [if_pos hc]
   ·rw [if_neg hc]
    congr 1
    omega
  ·rw [List.getElem?_eq_none (by omega), List.getElem?_eq_none (by simp; omega)]

inductive Back (m : List TMetState) : Nat → Nat → List Int → Prop
 | root {j : Nat} {x : TMetState} : m[j]? = some x → x.from_ = -1 → Back m j j []
 | step {j k r : Nat} {x : TMetState} {es : List Int} : m[j]? = some x → x.from_ = (k : Int) → k < j → Back m k r es → Back m j r (x.edge :: es)
theorem back_ex {p : TProgram} {c n : Nat} {l : List TState} {m : List TMetState} (h : Simc p c l m n) : ∀ j, j < m.length → ∃ r es, Back m j r es ∧ r < m.length ∧ es.length ≤ j := by
 intro j
 induction j using Nat.strongRecOn with
 | _ j ih =>
  intro hj
  have hx : m[j]? = some m[j] := List.getElem?_eq_getElem hj
  rcases Nat.lt_or_ge j c with hc | hc
  ·exact ⟨j, [], .root hx (h.root j _ hx hc), hj, Nat.zero_le _⟩
  ·obtain ⟨k, y, h1, h2, _⟩ := h.hit j _ hx hc
   obtain ⟨r, es, h3, h4, h5⟩ := ih k h2 (by omega)
   exact ⟨r, _, .step hx h1 h2 h3, h4, by simp; omega⟩
theorem impl_back {m : List TMetState} {j r : Nat} {es : List Int} (h : Back m j r es) : ∀ lst : List Int, lst.length + j ≤ 1000 →
 iter (ρ := Int × (List Int)) (fun s_52 : Int × (List Int) =>
               (at? m s_52.1).bind fun e_60 =>
                cond (leI 0 e_60.from_)
                 ((at? m s_52.1).bind fun _ =>
                  (room (s_52.2.length + [e_60.edge].length) 8).bind fun _ =>
                   (at? m s_52.1).bind fun _ =>
                    some (.inl (e_60.from_, s_52.2 ++ [e_60.edge])))
                 (some (.inr (s_52.1, s_52.2)))) ((j : Int), lst) = some ((r : Int), lst ++ es) := by
 induction h with
 | root hx hf =>
  intro lst hl
  refine iter_inr ?_
  simp only [at_nat, hx, Option.bind_some, cond_le]
  rw [if_neg (by omega), List.append_nil]
 | step hx hf hk _ ih =>
  rename_i j k r x es _
  intro lst hl
  rw [iter_inl (s' := ((k : Int), lst ++ [x.edge])) ?_, ih (lst ++ [x.edge]) (by simp; omega), List.append_assoc]
  ·rfl
  ·simp only [at_nat, hx, Option.bind_some, cond_le]
   rw [if_pos (by omega), room_small (by simp; omega) (by omega), hf]
   rfl
end Go.Ev


namespace Go.Ev
open Wf (wf)
open Sm (sm lg)
theorem bit_eq (b : Bool) : spec_l1Bit b = some (if b then 1 else 0) := by
 unfold spec_l1Bit
 cases b <;> rfl
theorem count_round (p : TProgram) (hn : smN p.vars) (c i : Nat) (es : List Int) (hes : es.length ≤ 24) (hin : ∀ e ∈ es, 0 ≤ e ∧ e < (p.edges.length : Int)) (m : List TMetState) (hR : Simc p c (m.map (·.state)) m 1048576) (hl : m.length ≤ 200) (hi : i < m.length) (n0 : Int) (h0 : 0 ≤ n0) (h1 : n0 ≤ 100000) :
 Tot2 (iter (ρ := Int) (fun s_21 : Int × Int =>
       cond (ltI s_21.2 (es.length : Int))
        ((at? es s_21.2).bind fun e_29 =>
         (at? p.edges e_29).bind fun e_34 =>
          (at? (m.map (·.state)) (i : Int)).bind fun _ =>
           (spec_Exec p.vars e_34.stmt m[i].state.heap).bind fun y_44 =>
            (spec_IsError y_44.2).bind fun y_48 =>
             (spec_l1Bit y_48).bind fun y_51 =>
              some (.inl (addI s_21.1 y_51, addI s_21.2 1)))
        (some (.inr s_21.1))) (n0, 0))
 (iter (ρ := (Bool × Int) ⊕ (Int)) (fun s_24 : Int × Int =>
       cond (ltI s_24.1 (es.length : Int))
        ((at? es s_24.1).bind fun e_33 =>
         (at? p.edges e_33).bind fun e_38 =>
          (impl_Exec p.vars e_38.stmt m[i].state.heap).bind fun y_43 =>
           (impl_IsError y_43.2).bind fun y_47 =>
            cond y_47
             ((iter (ρ := Int × (List Int)) (fun s_52 : Int × (List Int) =>
              (at? m s_52.1).bind fun e_60 =>
               cond (leI 0 e_60.from_)
                ((at? m s_52.1).bind fun _ =>
                 (room (s_52.2.length + [e_60.edge].length) 8).bind fun _ =>
                  (at? m s_52.1).bind fun _ =>
                   some (.inl (e_60.from_, s_52.2 ++ [e_60.edge])))
                (some (.inr (s_52.1, s_52.2)))) ((i : Int), [e_33])).bind fun r_78 =>
              (slices_Reverse_int r_78.2).bind fun y_87 =>
               (at? m r_78.1).bind fun e_93 =>
                (impl_Heap_own e_93.state.heap).bind fun y_98 =>
                 (impl_CountFailures_1 (⟨y_98, y_87, y_43.2⟩ : TFailure) s_24.2).bind fun y_103 =>
                  cond y_103.1
                   (some (.inl (addI s_24.1 1, y_103.2)))
                   (some (.inr (.inl (true, y_103.2)))))
             (some (.inl (addI s_24.1 1, s_24.2))))
        (some (.inr (.inr s_24.2)))) (0, n0)) (fun r r' => r' = .inr r ∧ 0 ≤ r ∧ r ≤ n0 + 24) := by
 refine Tot2.loop (fun j (s : Int × Int) (t : Int × Int) => s.2 = (j : Int) ∧ t.1 = (j : Int) ∧ t.2 = s.1 ∧ 0 ≤ s.1 ∧ s.1 ≤ n0 + j) es.length ⟨rfl, rfl, rfl, h0, by simp⟩ fun j s t hI hj => ?_
 obtain ⟨a, b⟩ := s
 obtain ⟨b', a'⟩ := t
 obtain ⟨g1, g2, g3, g4, g5⟩ := hI
 simp only at g1 g2 g3 g4 g5
 subst g1
 subst g2
 subst g3
 simp only [zao]
 by_cases hlt : (j : Int) < (es.length : Int)
 ·rw [if_pos hlt, if_pos hlt]
  have hj2 : j < es.length := by omega
  have hx : at? es (j : Int) = some es[j] := by rw [at_nat]; exact List.getElem?_eq_getElem hj2
  have he := hin _ (List.getElem_mem hj2)
  have hy : at? p.edges es[j] = some (p.edges.getD es[j].toNat zE) := at_in' he zE
  have hz2 : at? (m.map (·.state)) (i : Int) = some m[i].state := by rw [at_nat, List.getElem?_map, List.getElem?_eq_getElem hi]; rfl
  obtain ⟨r, hr⟩ := exec_both p.vars (p.edges.getD es[j].toNat zE).stmt m[i].state.heap hn
  simp only [hx, hy, hz2, Option.bind_some, hr.spec, hr.impl, (isErr_eq _).1, (isErr_eq _).2, bit_eq, cond_dec, decide_eq_true_eq]
  rw [addI_eq (a := (j : Int)) (by omega) (by omega)]
  by_cases hc : 2 ≤ r.2 ∧ r.2 ≤ 5
  ·rw [if_pos hc, if_pos hc]
   obtain ⟨q, ps, k1, k2, k3⟩ := back_ex hR i hi
   have hq : at? m (q : Int) = some m[q] := by rw [at_nat]; exact List.getElem?_eq_getElem k2
   have ht := tiny_ok (hR.sims.tiny m[q] (List.getElem_mem k2))
   rw [impl_back k1 [es[j]] (by simp; omega)]
   simp only [Option.bind_some]
   rw [reverse_ok _ (by simp; omega)]
   simp only [Option.bind_some, hq]
   rw [impl_own _ (by have := ht.1; unfold small; omega) (by have := ht.2; unfold small; omega)]
   simp only [Option.bind_some, impl_CountFailures_1, cond_true]
   rw [addI_eq (by omega) (by omega)]
   exact Tot2.ret (.inl ⟨_, _, rfl, rfl, hj2, rfl, rfl, rfl, by show 0 ≤ a' + 1; omega, by show a' + 1 ≤ n0 + ((j + 1 : Nat) : Int); omega⟩)
  ·rw [if_neg hc, if_neg hc]
   rw [addI_eq (by omega) (by omega)]
   exact Tot2.ret (.inl ⟨_, _, rfl, rfl, hj2, rfl, rfl, by show a' = a' + 0; omega, by show 0 ≤ a' + 0; omega, by show a' + 0 ≤ n0 + ((j + 1 : Nat) : Int); omega⟩)
 ·rw [if_neg hlt, if_neg hlt]
  exact Tot2.ret (.inr ⟨_, _, rfl, rfl, rfl, g4, by omega⟩)
theorem count_both (p : TProgram) (start : List THeap) (hp : smP p) (hs : start.length ≤ 1048576) : ∃ n, spec_CountFailures p start = some n ∧ impl_CountFailures p start = some n := by
 obtain ⟨⟨m, ok⟩, e1, e2, e3⟩ := explore_c p start hp hs
 unfold spec_CountFailures impl_CountFailures impl_failures
 rw [e1, e2]
 cases ok with
 | false => exact ⟨_, rfl, rfl⟩
 | true =>
  obtain ⟨hpr, hl, hR, _⟩ := e3 rfl
  have hed := pr_edges hpr
  simp only at hl hR
  simp only [Option.bind_some, cond_true, if_true]
  have hml : (m.map (·.state)).length = m.length := List.length_map ..
  have hout : Tot2 (iter (ρ := Int) (fun s_5 : Int × Int =>
   cond (ltI s_5.2 ((m.map (·.state)).length : Int))
    ((at? (m.map (·.state)) s_5.2).bind fun e_13 =>
     (spec_EdgesFrom p e_13.point).bind fun y_18 =>
      (iter (ρ := Int) (fun s_21 : Int × Int =>
       cond (ltI s_21.2 (y_18.length : Int))
        ((at? y_18 s_21.2).bind fun e_29 =>
         (at? p.edges e_29).bind fun e_34 =>
          (at? (m.map (·.state)) s_5.2).bind fun _ =>
           (spec_Exec p.vars e_34.stmt e_13.heap).bind fun y_44 =>
            (spec_IsError y_44.2).bind fun y_48 =>
             (spec_l1Bit y_48).bind fun y_51 =>
              some (.inl (addI s_21.1 y_51, addI s_21.2 1)))
        (some (.inr s_21.1))) (s_5.1, 0)).bind fun r_54 =>
       some (.inl (r_54, addI s_5.2 1)))
    (some (.inr s_5.1))) (0, 0))
   (iter (ρ := (Bool × Int) ⊕ (Int)) (fun s_6 : Int × Int =>
   cond (ltI s_6.1 (m.length : Int))
    ((at? m s_6.1).bind fun e_15 =>
     (impl_EdgesFrom p e_15.state.point).bind fun y_21 =>
      (iter (ρ := (Bool × Int) ⊕ (Int)) (fun s_24 : Int × Int =>
       cond (ltI s_24.1 (y_21.length : Int))
        ((at? y_21 s_24.1).bind fun e_33 =>
         (at? p.edges e_33).bind fun e_38 =>
          (impl_Exec p.vars e_38.stmt e_15.state.heap).bind fun y_43 =>
           (impl_IsError y_43.2).bind fun y_47 =>
            cond y_47
             ((iter (ρ := Int × (List Int)) (fun s_52 : Int × (List Int) =>
              (at? m s_52.1).bind fun e_60 =>
               cond (leI 0 e_60.from_)
                ((at? m s_52.1).bind fun _ =>
                 (room (s_52.2.length + [e_60.edge].length) 8).bind fun _ =>
                  (at? m s_52.1).bind fun _ =>
                   some (.inl (e_60.from_, s_52.2 ++ [e_60.edge])))
                (some (.inr (s_52.1, s_52.2)))) (s_6.1, [e_33])).bind fun r_78 =>
              (slices_Reverse_int r_78.2).bind fun y_87 =>
               (at? m r_78.1).bind fun e_93 =>
                (impl_Heap_own e_93.state.heap).bind fun y_98 =>
                 (impl_CountFailures_1 (⟨y_98, y_87, y_43.2⟩ : TFailure) s_24.2).bind fun y_103 =>
                  cond y_103.1
                   (some (.inl (addI s_24.1 1, y_103.2)))
                   (some (.inr (.inl (true, y_103.2)))))
             (some (.inl (addI s_24.1 1, s_24.2))))
        (some (.inr (.inr s_24.2)))) (0, s_6.2)).bind fun r_110 =>
       Sum.elim (fun r_110 =>
        some (.inr (.inl (r_110.1, r_110.2))))
        (fun r_110 =>
        some (.inl (addI s_6.1 1, r_110))) r_110)
    (some (.inr (.inr s_6.2)))) (0, 0)) (fun r r' => r' = .inr r) := by
    refine Tot2.loop (fun i (s : Int × Int) (t : Int × Int) => s.2 = (i : Int) ∧ t.1 = (i : Int) ∧ t.2 = s.1 ∧ 0 ≤ s.1 ∧ s.1 ≤ 24 * i) m.length ⟨rfl, rfl, rfl, by simp, by simp⟩ fun i s t hI hi => ?_
    obtain ⟨a, b⟩ := s
    obtain ⟨b', a'⟩ := t
    obtain ⟨g1, g2, g3, g4, g5⟩ := hI
    simp only at g1 g2 g3 g4 g5
    subst g1
    subst g2
    subst g3
    simp only [zao, hml]
    by_cases hlt : (i : Int) < (m.length : Int)
    ·rw [if_pos hlt, if_pos hlt]
     have hk : i < m.length := by omega
     have hz : at? m (i : Int) = some m[i] := by rw [at_nat]; exact List.getElem?_eq_getElem hk
     have hz2 : at? (m.map (·.state)) (i : Int) = some m[i].state := by rw [at_nat, List.getElem?_map, List.getElem?_eq_getElem hk]; rfl
     obtain ⟨es, e4, e5, e6⟩ := edges_ok p (by omega) m[i].state.point
     obtain ⟨r, r', e7, e8, rfl, e9, e10⟩ := count_round p hp.1 _ i es (by omega) e6 m hR hl hk a' g4 (by omega)
     simp only [hz, Option.bind_some, edges_same, e4]
     simp only [zao, hz2, Option.bind_some] at e7 e8
     simp only [hz2, Option.bind_some, e4]
     rw [e7, e8]
     simp only [Option.bind_some, Sum.elim_inr]
     rw [addI_eq (by omega) (by omega)]
     exact Tot2.ret (.inl ⟨_, _, rfl, rfl, hk, rfl, rfl, rfl, e9, by show r ≤ 24 * ((i + 1 : Nat) : Int); omega⟩)
    ·rw [if_neg hlt, if_neg hlt]
     exact Tot2.ret (.inr ⟨_, _, rfl, rfl, rfl⟩)
  obtain ⟨r, r', e4, e5, rfl⟩ := hout
  rw [e4, e5]
  exact ⟨r, rfl, rfl⟩
theorem law_CountFailures {p : TProgram} {start : List THeap} (hp : wf p) (hs : wf start) : laws_FnExactCountFailures p start = some true := by
 unfold laws_FnExactCountFailures
 obtain ⟨n, h1, h2, h3, h4⟩ := szProgram_ok hp (left := 1048576) (by omega)
 rw [h1, Option.bind_some, zao]
 by_cases hn : n < 0
 ·rw [if_pos hn]
 ·rw [if_neg hn]
  have s1 := h3 (by omega)
  obtain ⟨m, k1, k2, k3, k4⟩ := szHeapS_ok hs (left := n) (by omega)
  rw [k1, Option.bind_some, zao]
  by_cases hm : m < 0
  ·rw [if_pos hm]
  ·rw [if_neg hm]
   have s2 := k3 (by omega)
   obtain ⟨r, e1, e2⟩ := count_both p start (smP_of s1) s2.1
   simp [toProgram_ok s1, toHeapS_ok s2, e1, e2, neI, eqProgram_ok (sm_lg s1), eqHeapS_ok (sm_lg s2)]
end Go.Ev


namespace Go.Proofs
open Go.Ev
theorem st0 {g : Cfg} {f : Nat} {args : List AV} {fn : Go.Func} {r : AV} (l : List Go.ResultVar) (h1 : Tryz.prog.funcs[f]? = some fn) (h : Goal (FnEnd Tryz.prog 0 l ((lookK (f, atEnd) g.gho).getD []) r) (evk g (0 + 1) f (fn.body.getD .skip) [] { env := fun t => (args[t]?).getD .dead, mem := mem0 }))
 (h0 : lookN f g.ctx = none := by rfl) (hP : g.P = Tryz.prog := by rfl) (h2 : fn.body = some (fn.body.getD .skip) := by kernel_rfl) (h3 : fnOK g f fn = true := by kernel_rfl) (h4 : Nat.ble args.length fn.ntmps = true := by kernel_rfl) (h5 : fn.results.toList = l := by rfl) : ∃ m, callo g 0 f args mem0 = some (r, m) :=
 start_fn _ l h0 hP h1 h2 h3 (Nat.le_of_ble_eq_true h4) h5 h
theorem stD {g : Cfg} {f d : Nat} {args : List AV} {fn : Go.Func} {r : AV} {mem : Mem} {Q : Mem → Prop} (l : List Go.ResultVar) (h1 : Tryz.prog.funcs[f]? = some fn) (h : ∀ QV, QV = Q → Goal (FnEndD Tryz.prog d l ((lookK (f, atEnd) g.gho).getD []) r QV) (evk g (d + 1) f (fn.body.getD .skip) [] { env := fun t => (args[t]?).getD .dead, mem }))
 (h0 : lookN f g.ctx = none := by rfl) (hP : g.P = Tryz.prog := by rfl) (h2 : fn.body = some (fn.body.getD .skip) := by kernel_rfl) (h3 : fnOK g f fn = true := by kernel_rfl) (h4 : Nat.ble args.length fn.ntmps = true := by kernel_rfl) (h5 : fn.results.toList = l := by rfl) : ∃ m, callo g d f args mem = some (r, m) ∧ Q m :=
 start_D _ l h0 hP h1 h2 h3 (Nat.le_of_ble_eq_true h4) h5 h
theorem ent {f : Nat} {fn : Go.Func} (h : Tryz.prog.funcs[f]? = some fn) (h1 : fn.body.isSome = true := by kernel_rfl) (h2 : (fn.name == "runtime.NumGoroutine") = false := by kernel_rfl) : Go.Ev.Enters Tryz.prog f := ⟨fn, h, h1, h2⟩
@[simp] theorem ti_3 : ti Tryz.prog 3 = some { size := 1, bytes := 8, agg := false, elem := none, flds := [], zero := [.int .i64 0] } := by kernel_rfl
@[simp] theorem ti_9 : ti Tryz.prog 9 = some { size := 1, bytes := 16, agg := false, elem := none, flds := [], zero := [.string ByteArray.empty] } := by kernel_rfl
attribute [simp] Tryz.underlying9
@[simp] theorem ti_22 : ti Tryz.prog 22 = some { size := 1, bytes := 24, agg := false, elem := some 9, flds := [], zero := [.slice none 0 0] } := by kernel_rfl
@[simp] theorem ti_23 : ti Tryz.prog 23 = some { size := 1, bytes := 24, agg := false, elem := some 110, flds := [], zero := [.slice none 0 0] } := by kernel_rfl
@[simp] theorem ti_25 : ti Tryz.prog 25 = some { size := 3, bytes := 56, agg := true, elem := none, flds := [(0, 22), (1, 3), (2, 23)], zero := [.slice none 0 0, .int .i64 0, .slice none 0 0] } := by kernel_rfl
@[simp] theorem ti_26 : ti Tryz.prog 26 = some { size := 1, bytes := 24, agg := false, elem := some 3, flds := [], zero := [.slice none 0 0] } := by kernel_rfl
@[simp] theorem ti_28 : ti Tryz.prog 28 = some { size := 2, bytes := 48, agg := true, elem := none, flds := [(0, 26), (1, 26)], zero := [.slice none 0 0, .slice none 0 0] } := by kernel_rfl
@[simp] theorem ti_31 : ti Tryz.prog 31 = some { size := 2, bytes := 48, agg := true, elem := none, flds := [(0, 26), (1, 26)], zero := [.slice none 0 0, .slice none 0 0] } := by kernel_rfl
@[simp] theorem ti_33 : ti Tryz.prog 33 = some { size := 3, bytes := 56, agg := true, elem := none, flds := [(0, 3), (1, 31)], zero := [.int .i64 0, .slice none 0 0, .slice none 0 0] } := by kernel_rfl
@[simp] theorem ti_36 : ti Tryz.prog 36 = some { size := 1, bytes := 24, agg := false, elem := some 85, flds := [], zero := [.slice none 0 0] } := by kernel_rfl
@[simp] theorem ti_38 : ti Tryz.prog 38 = some { size := 3, bytes := 56, agg := true, elem := none, flds := [(0, 22), (1, 3), (2, 36)], zero := [.slice none 0 0, .int .i64 0, .slice none 0 0] } := by kernel_rfl
@[simp] theorem ti_51 : ti Tryz.prog 51 = some { size := 1, bytes := 24, agg := false, elem := some 28, flds := [], zero := [.slice none 0 0] } := by kernel_rfl
@[simp] theorem ti_54 : ti Tryz.prog 54 = some { size := 1, bytes := 24, agg := false, elem := some 31, flds := [], zero := [.slice none 0 0] } := by kernel_rfl
@[simp] theorem ti_58 : ti Tryz.prog 58 = some { size := 1, bytes := 24, agg := false, elem := some 33, flds := [], zero := [.slice none 0 0] } := by kernel_rfl
@[simp] theorem ti_65 : ti Tryz.prog 65 = some { size := 4, bytes := 80, agg := true, elem := none, flds := [(0, 31), (2, 26), (3, 3)], zero := [.slice none 0 0, .slice none 0 0, .slice none 0 0, .int .i64 0] } := by kernel_rfl
@[simp] theorem ti_83 : ti Tryz.prog 83 = some { size := 3, bytes := 40, agg := true, elem := none, flds := [(0, 3), (1, 9), (2, 9)], zero := [.int .i64 0, .string ByteArray.empty, .string ByteArray.empty] } := by kernel_rfl
@[simp] theorem ti_85 : ti Tryz.prog 85 = some { size := 5, bytes := 56, agg := true, elem := none, flds := [(0, 3), (1, 3), (2, 83)], zero := [.int .i64 0, .int .i64 0, .int .i64 0, .string ByteArray.empty, .string ByteArray.empty] } := by kernel_rfl
@[simp] theorem ti_100 : ti Tryz.prog 100 = some { size := 1, bytes := 24, agg := false, elem := some 104, flds := [], zero := [.slice none 0 0] } := by kernel_rfl
@[simp] theorem ti_104 : ti Tryz.prog 104 = some { size := 5, bytes := 72, agg := true, elem := none, flds := [(0, 33), (3, 3), (4, 3)], zero := [.int .i64 0, .slice none 0 0, .slice none 0 0, .int .i64 0, .int .i64 0] } := by kernel_rfl
@[simp] theorem ti_108 : ti Tryz.prog 108 = some { size := 3, bytes := 40, agg := true, elem := none, flds := [(0, 3), (1, 9), (2, 9)], zero := [.int .i64 0, .string ByteArray.empty, .string ByteArray.empty] } := by kernel_rfl
@[simp] theorem ti_110 : ti Tryz.prog 110 = some { size := 5, bytes := 56, agg := true, elem := none, flds := [(0, 3), (1, 3), (2, 108)], zero := [.int .i64 0, .int .i64 0, .int .i64 0, .string ByteArray.empty, .string ByteArray.empty] } := by kernel_rfl
@[simp] theorem ti_158 : ti Tryz.prog 158 = some { size := 1, bytes := 24, agg := false, elem := some 26, flds := [], zero := [.slice none 0 0] } := by kernel_rfl
end Go.Proofs

