import Derived.Test.YtahcfnjgllpkdaaEvSeat
import Derived.WalkKit
import Derived.Deep.LoopGhost
import Derived.Lib.Walk
import Derived.Lib.SliceRun
import Derived.Laws.OwnMore
import Derived.Lib.AppendZerosOnto
set_option linter.unusedSimpArgs false
set_option linter.unusedVariables false
set_option linter.unnecessarySimpa false
namespace Go.Proofs
open Go.Ev Go.RowKit Go.Lib
theorem INFO3 : (Try.prog.info? 3).map (fun i => (i.zero, i.size, i.bytes)) = some (some (.int .i64 0), 1, 8) := by kernel_rfl
set_option maxHeartbeats 4000000 in
set_option maxRecDepth 100000 in
theorem grow170_zero (w : World) : Calls Try.prog 170 #[.slice none 0 0, .int .i64 0] w fun e w' => e = .returned (.slice none 0 0) ∧ w' = w := by
  have u44 : ∀ w, Sem.run Try.prog (underlying 44) w = .ok (TypeDesc.slice 3) w := run_underlying Try.underlying44
  go_enter Try.func170, Try.ntmps170
  go_wp2
  go_ret
  exact ⟨rfl, rfl⟩

set_option maxHeartbeats 4000000 in
set_option maxRecDepth 100000 in
theorem grow170_pos (n : Nat) (w : World) (h0 : 0 < n) (hbig : n * 8 ≤ 140737488355328) :
    Calls Try.prog 170 #[.slice none 0 0, .int .i64 n] w fun e w' => ∃ v, e = .returned v ∧ w'.ownsRow w.heap.size 3 1 v 0 [] ∧ Below w.heap.size w w' := by
  obtain ⟨i0, hi, hz0, hz1, hz2⟩ := info_parts INFO3
  have u44 : ∀ w, Sem.run Try.prog (underlying 44) w = .ok (TypeDesc.slice 3) w := run_underlying Try.underlying44
  have hrz := fun ty => run_append_grow_zeros (P := Try.prog) w 44 3 ty 3 i0 (.int .i64 0) .i64 .i64 Try.underlying44 Try.underlying3 hi hz0 none 0 0 [] (run_firstCells_none w.drew i0.size 0 0 0) n h0 (by omega) (by omega) (by omega) (by rw [hz2]; omega)
    (by rw [hz2]; exact growslice_fits (by omega) (by omega))
  have hGn : 0 + n ≤ grownCap w (0 + n) 0 3 := grownCap_ge w _ _ _
  have hGm := grownCap_le_maxLen w (0 + n) 0 3 (by unfold maxLen; omega)
  obtain ⟨G, hG⟩ : ∃ G, G = grownCap w (0 + n) 0 3 := ⟨_, rfl⟩
  rw [← hG] at hrz hGn hGm
  have A : Aside (G ≤ maxLen) := hGm
  clear hG hGm
  simp only [Nat.zero_add] at hrz hGn
  have h1 : ¬ ((n : Int) < 0) := by omega
  have h2 : ((n : Int) > 0) := by omega
  have h3 : wrap64 (n : Int) = n := by unfold wrap64; omega
  have h4 : G ≤ 9223372036854775807 := by have := A.out; unfold maxLen at this; omega
  have B : Aside (i0.size = 1) := hz1
  clear hz1 hz2
  go_enter Try.func170, Try.ntmps170
  go_wp2_with (at_builtin; refine Lib.wpList_append_run _ rfl _ _ _ _ rfl _ _ rfl rfl _ _ (hrz _) ?_)
  all_goals (go_ret; refine ⟨_, rfl, ⟨rfl, .inr ⟨_, _, _, rfl, Nat.le_refl _, heap_new _ _, Nat.zero_le _, A.out, ?_, by simp⟩⟩, rfl, rfl, rfl, by (show w.heap.size ≤ (w.heap.push _).size); rw [Array.size_push]; omega, fun k hk => heap_old _ _ hk⟩)
  all_goals (simp [Builtin.zeroCells]; omega)

/-- the contract of Grow at nil, both ways -/
theorem grow170 (n : Nat) (w : World) (hbig : n * 8 ≤ 140737488355328) :
    Calls Try.prog 170 #[.slice none 0 0, .int .i64 n] w fun e w' => ∃ v, e = .returned v ∧ w'.ownsRow w.heap.size 3 1 v 0 [] ∧ (n = 0 → v = .slice none 0 0) ∧ Below w.heap.size w w' := by
  rcases Nat.eq_zero_or_pos n with rfl | hn
  · refine (grow170_zero w).mono fun e w' h => ?_
    obtain ⟨rfl, rfl⟩ := h
    exact ⟨_, rfl, ⟨rfl, .inl ⟨rfl, rfl⟩⟩, fun _ => rfl, Below.refl _ _⟩
  · refine (grow170_pos n w hn hbig).mono fun e w' h => ?_
    obtain ⟨v, rfl, h1, h2⟩ := h
    exact ⟨v, rfl, h1, fun h0 => by omega, h2⟩

set_option maxHeartbeats 8000000 in
set_option maxRecDepth 1000000 in
theorem concat152 (xa : Option Addr) (xb xo N xc : Nat) (ra : Nat → Option Addr) (nn rc : Nat → Nat) (ne : Nat → List Value) (w : World) (hxa : 0 < N → xa = some ⟨xb, xo, none⟩) (hN : Hid (N ≤ maxLen))
    (hc : Aside (∀ j, j < N → w.cell? ⟨xb, xo + j, none⟩ = some (.slice (ra j) (nn j) (rc j)))) (hr : Aside (∀ j, j < N → RowAt w 1 (ra j) (nn j) (ne j))) (hbig : Aside (tot nn N * 8 ≤ 140737488355328)) :
    Calls Try.prog 152 #[.slice xa N xc] w fun e w' => ∃ v, e = .returned v ∧ w'.ownsRow w.heap.size 3 1 v (tot nn N) (cat ne N) ∧ (tot nn N = 0 → v = .slice none 0 0) ∧ Below w.heap.size w w' := by
  obtain ⟨i0, hi, hz0, hz1, hz2⟩ := info_parts INFO3
  have B : Aside (i0.size = 1 ∧ i0.bytes = 8) := ⟨hz1, hz2⟩
  clear hz1 hz2
  go_enter Try.func152, Try.ntmps152
  go_wp2
  go_loopg [3, 11] N (fun k s c wr => ∃ j, k = N - j ∧ j ≤ N ∧ s = .int .i64 (tot nn j : Nat) ∧ c = .int .i64 j ∧ w = wr)
  case atStart => exact ⟨0, rfl, Nat.zero_le _, rfl, rfl, rfl⟩
  case round =>
    obtain ⟨j, hk, hj, rfl, rfl, rfl⟩ := hrel
    by_cases hlt : j < N
    · obtain rfl := hxa (by omega)
      have hx := hc.out j hlt
      have hlt' : (j : Int) < (N : Int) := by omega
      have hw : wrap64 ((tot nn j : Int) + (nn j : Int)) = ((tot nn (j + 1) : Nat) : Int) := by
        have := tot_mono nn (i := j + 1) (j := N) (by omega)
        have := hbig.out
        exact wrap_add (by simp only [tot] at *; unfold maxLen; omega)
      have hneg : ¬ (((tot nn (j + 1) : Nat) : Int) < 0) := by omega
      go_wp2
      go_roundg (N - (j + 1))
      case measure => omega
      case rel => exact ⟨j + 1, rfl, by omega, rfl, by simp; exact wrap_add (a := j) (b := 1) (by have := hN.out; omega), rfl⟩
    · obtain rfl : j = N := by omega
      have hg := grow170 (tot nn j) w hbig.out
      go_wp2_with (go_at_call 170; refine hg.mono ?_; rintro e w' ⟨v, rfl, hown, hnil, hbel⟩)
      clear hg
      go_loopg [6, 27] j (fun k d c wq => ∃ i, k = j - i ∧ i ≤ j ∧ c = .int .i64 i ∧ wq.ownsRow w.heap.size 3 1 d (tot nn i) (cat ne i) ∧ (tot nn j = 0 → d = .slice none 0 0) ∧ Below w.heap.size w wq)
      case atStart => exact ⟨0, rfl, Nat.zero_le _, rfl, hown, hnil, hbel⟩
      case round =>
        obtain ⟨i, hk, hi2, rfl, hown2, hnil2, hbel2⟩ := hrel
        by_cases hlt2 : i < j
        · obtain rfl := hxa (by omega)
          have hx : wr.cell? ⟨xb, xo + i, none⟩ = some (.slice (ra i) (nn i) (rc i)) := by
            have := hc.out i hlt2
            rw [← this]
            exact World.cell?_of_block (hbel2.block xb (World.block_lt_of_cell? _ _ this))
          obtain ⟨v2, w2, hrun, hown3, hgr, hnil3⟩ := run_append_rowAt (P := Try.prog) w.heap.size 44 44 3 i0 (.int .i64 0) 1 8 Try.underlying44 hi hz0 B.out.1 B.out.2 rfl (by decide) _ _ _ hown2 (ra i) (nn i) (rc i) (ne i) (hr.out i hlt2) hbel2.block
            (by have := tot_mono nn (i := i + 1) (j := j) (by omega); have := hbig.out; simp only [tot] at *; unfold maxLen; omega) (by have := tot_mono nn (i := i + 1) (j := j) (by omega); have := hbig.out; simp only [tot] at *; omega) hbel2.size
          have hbel3 : Below w.heap.size w w2 := by
            refine hbel2.trans ⟨hgr.os, hgr.tape, hgr.output, hgr.size, fun k hk => hgr.block k (Nat.lt_of_lt_of_le hk hbel2.size) fun he => ?_⟩
            rcases hown2.2 with ⟨h1, _⟩ | ⟨g, cap, cur, h1, h2, _⟩
            · rw [h1] at he; simp [Value.ownBlock] at he
            · rw [h1] at he; simp [Value.ownBlock] at he; omega
          have hnil4 : tot nn j = 0 → v2 = .slice none 0 0 := fun h0 => by
            have := tot_mono nn (i := i + 1) (j := j) (by omega)
            rw [hnil3 (by simp only [tot] at *; omega), hnil2 h0]
          have hlt3 : (i : Int) < (j : Int) := by omega
          have H : Aside (w2.ownsRow w.heap.size 3 1 v2 (tot nn (i + 1)) (cat ne (i + 1)) ∧ (tot nn j = 0 → v2 = .slice none 0 0) ∧ Below w.heap.size w w2) := ⟨hown3, hnil4, hbel3⟩
          clear hown3 hnil4 hbel3 hnil3 hgr hown2 hnil2 hbel2 hown hnil hbel
          go_wp2_with (at_builtin; refine Lib.wpList_append_run _ rfl _ _ _ _ rfl _ _ rfl rfl _ _ hrun ?_)
          go_roundg (j - (i + 1))
          case measure => omega
          case rel => exact ⟨i + 1, rfl, by omega, by simp; exact wrap_add (a := i) (b := 1) (by have := hN.out; omega), H.out.1, H.out.2⟩
        · obtain rfl : i = j := by omega
          go_wp2
          go_ret
          exact ⟨_, rfl, hown2, hnil2, hbel2⟩

noncomputable def C152 : List AV → Option AV := specP (X := List (List Int) × Unit) fun x => slices_Concat_int x.1
theorem C152_eq {s : List (List Int)} {y} (h : slices_Concat_int s = some y) : C152 [av .shr s] = some (Res.res y) := specP_eq (X := List (List Int) × Unit) (F := fun x => slices_Concat_int x.1) (x := (s, ())) h
theorem pc152 : PC Try.prog 152 C152 :=
  pc_concat (α := Int) (e := 3) (bytes := 8) ⟨Try.f152, Try.func152, by kernel_rfl, by kernel_rfl⟩
    fun xa xb xo N xc ra nn rc ne w h1 h2 h3 h4 h5 => concat152 xa xb xo N xc ra nn rc ne w h1 h2 h3 h4 h5

set_option maxHeartbeats 2000000 in
set_option maxRecDepth 100000 in
theorem clone106_nil (n c : Nat) (w : World) : Calls Try.prog 106 #[.slice none n c] w fun e w' => e = .returned (.slice none 0 0) ∧ w' = w := by
  have q44 : ∀ (w : World) (a : Option Addr) (n c n' c' : Nat), (binOp .eql 44 (.slice a n c) (.slice none n' c')).run Try.prog w = .ok (.bool a.isNone) w := fun w a n c n' c' => Lib.run_eql_slice_nil w _ _ a n c n' c' Try.underlying44
  go_enter Try.func106, Try.ntmps106
  go_wp2
  go_ret
  exact ⟨rfl, rfl⟩

set_option maxHeartbeats 2000000 in
set_option maxRecDepth 100000 in
theorem clone106_zero (a : Addr) (c : Nat) (w : World) :
    Calls Try.prog 106 #[.slice (some a) 0 c] w fun e w' => ∃ b, e = .returned (.slice b 0 0) ∧ w' = w.alloc (.cells #[] 3) := by
  have q44 : ∀ (w : World) (a : Option Addr) (n c n' c' : Nat), (binOp .eql 44 (.slice a n c) (.slice none n' c')).run Try.prog w = .ok (.bool a.isNone) w := fun w a n c n' c' => Lib.run_eql_slice_nil w _ _ a n c n' c' Try.underlying44
  go_enter Try.func106, Try.ntmps106
  go_wp2
  go_ret
  exact ⟨_, rfl, rfl⟩

set_option maxHeartbeats 2000000 in
set_option maxRecDepth 100000 in
theorem clone106_row (b off n c : Nat) (vs : List Value) (w : World) (hlen : vs.length = n * 1) (hbig : n * 8 ≤ 140737488355328) (hsc : ∀ u ∈ vs, scal u = true) (hc : ∀ j u, vs[j]? = some u → w.cell? ⟨b, off + j, none⟩ = some u) :
    Calls Try.prog 106 #[.slice (some ⟨b, off, none⟩) n c] w fun e w' => ∃ v', e = .returned v' ∧ w'.ownsRow w.heap.size 3 1 v' n vs ∧ Below w.heap.size w w' := by
  obtain ⟨i0, hi, hz0, hz1, hz2⟩ := info_parts INFO3
  have q44 : ∀ (w : World) (a : Option Addr) (n c n' c' : Nat), (binOp .eql 44 (.slice a n c) (.slice none n' c')).run Try.prog w = .ok (.bool a.isNone) w := fun w a n c n' c' => Lib.run_eql_slice_nil w _ _ a n c n' c' Try.underlying44
  have u44 : ∀ w, Sem.run Try.prog (underlying 44) w = .ok (TypeDesc.slice 3) w := run_underlying Try.underlying44
  have A : Aside (∀ j u, vs[j]? = some u → w.cell? ⟨b, off + j, none⟩ = some u) := hc
  clear hc
  go_enter Try.func106, Try.ntmps106
  go_wp2_with (at_builtin; refine wpList_append_own _ rfl _ _ 44 rfl w.heap.size 3 i0 (.int .i64 0) 1 8 Try.underlying44 hi hz0 hz1 hz2 rfl (by decide) _ _ _ rfl (World.ownsRow_made w #[] 0 (Nat.le_refl _) (Nat.zero_le _) rfl) ⟨b, off, none⟩ n c vs rfl ?qc1 ?qc2 ?qc3 ?qc4 ?qc5 ?qc6 ?_)
  case qc1 => exact hlen
  case qc2 =>
    intro j u hj
    rw [Addr.add_lit]
    exact Lib.cell?_alloc_some _ (A.out j u hj)
  case qc3 =>
    intro u hu
    have := hsc u hu
    cases u <;> first | rfl | cases this
  case qc4 => unfold maxLen; omega
  case qc5 => omega
  case qc6 => simp
  intro v' w1 hown hgrow hnil
  go_wp2
  go_ret
  refine ⟨_, rfl, by simpa using hown, ?_⟩
  refine ⟨hgrow.os, hgrow.tape, hgrow.output, ?_, fun k hk => ?_⟩
  · have := hgrow.size; rw [World.size_alloc] at this; omega
  · rw [hgrow.block k (by rw [World.size_alloc]; omega) (by simp [Value.ownBlock]; omega), heap_old w _ hk]

noncomputable def C106 : List AV → Option AV := specP (X := List Int × Unit) fun x => slices_Clone_int x.1
theorem C106_eq {s : List Int} {y} (h : slices_Clone_int s = some y) : C106 [av .shr s] = some (Res.res y) := specP_eq (X := List Int × Unit) (F := fun x => slices_Clone_int x.1) (x := (s, ())) h
theorem pc106 : PC Try.prog 106 C106 :=
  pc_clone (α := Int) (e := 3) (bytes := 8) ⟨Try.f106, Try.func106, by kernel_rfl, by kernel_rfl⟩ clone106_nil
    (fun a c w => (clone106_zero a c w).mono fun e w' h => by
      obtain ⟨b, rfl, rfl⟩ := h
      exact ⟨b, rfl, rfl, rfl, rfl, by rw [World.size_alloc]; omega, fun k hk => heap_old w _ hk⟩)
    clone106_row
end Go.Proofs
