import Derived.Test.YtmmliafoddlgfaaGreatEvA11
import Derived.WalkKit
import Derived.Deep.LoopGhost
import Derived.Lib.Walk
import Derived.Lib.SliceRun
import Derived.Laws.OwnMore
import Derived.Lib.AppendZerosOnto
import Derived.Test.YtmmliafoddlgfaaGreatEvA8
import Derived.Deep.RegionLaw
import Derived.Shelf.RegionOpenPlain
import Derived.Lib.SlicesDelete
import Derived.Laws.Rows
import Derived.Laws.IdiomStrings
import Derived.Laws.BytesArg
set_option linter.unusedSimpArgs false
set_option linter.unusedVariables false
set_option linter.unnecessarySimpa false
noncomputable section
namespace Go.Proofs
open Go.Ev Go.RowKit Go.Lib Go.Sort
theorem INFO3 : (Tryz.prog.info? 3).map (fun i => (i.zero, i.size, i.bytes)) = some (some (.int .i64 0), 1, 8) := by kernel_rfl
set_option maxHeartbeats 4000000 in
set_option maxRecDepth 100000 in
theorem grow155_zero (w : World) : Calls Tryz.prog 155 #[.slice none 0 0, .int .i64 0] w fun e w' => e = .returned (.slice none 0 0) ∧ w' = w := by
 have u26 : ∀ w, Sem.run Tryz.prog (underlying 26) w = .ok (TypeDesc.slice 3) w := run_underlying Tryz.underlying26
 go_enter Tryz.func155, Tryz.ntmps155
 go_wp2
 go_ret
 exact ⟨rfl, rfl⟩

set_option maxHeartbeats 4000000 in
set_option maxRecDepth 100000 in
theorem grow155_pos (n : Nat) (w : World) (h0 : 0 < n) (hbig : n * 8 ≤ 140737488355328) :
 Calls Tryz.prog 155 #[.slice none 0 0, .int .i64 n] w fun e w' => ∃ v, e = .returned v ∧ w'.ownsRow w.heap.size 3 1 v 0 [] ∧ Below w.heap.size w w' := by
 obtain ⟨i0, hi, hz0, hz1, hz2⟩ := info_parts INFO3
 have u26 : ∀ w, Sem.run Tryz.prog (underlying 26) w = .ok (TypeDesc.slice 3) w := run_underlying Tryz.underlying26
 have hrz := fun ty => run_append_grow_zeros (P := Tryz.prog) w 26 3 ty 3 i0 (.int .i64 0) .i64 .i64 Tryz.underlying26 Tryz.underlying3 hi hz0 none 0 0 [] (run_firstCells_none w.drew i0.size 0 0 0) n h0 (by omega) (by omega) (by omega) (by rw [hz2]; omega)
  (by rw [hz2]; exact growslice_fits (by omega) (by omega))
 have hGn : 0 + n ≤ grownCap w (0 + n) 0 3 := grownCap_ge w _ _ _
 have hGm := grownCap_le_maxLen w (0 + n) 0 3 (by unfold maxLen; omega)
 obtain ⟨G, hG⟩ : ∃ G, G = grownCap w (0 + n) 0 3 := ⟨_, rfl⟩
 rw [← hG] at hrz hGn hGm
 have A : Aside (G ≤ maxLen) := hGm
 clear hG hGm
 simp only [Nat.zero_add] at hrz hGn
 have h1 : ¬ ((n : Int) < 0) := by omega
 have h2 : ((n : Int) > 0) := by omega
 have h3 : wrap64 (n : Int) = n := by unfold wrap64; omega
 have h4 : G ≤ 9223372036854775807 := by have := A.out; unfold maxLen at this; omega
 have B : Aside (i0.size = 1) := hz1
 clear hz1 hz2
 go_enter Tryz.func155, Tryz.ntmps155
 go_wp2_with (at_builtin; refine Lib.wpList_append_run _ rfl _ _ _ _ rfl _ _ rfl rfl _ _ (hrz _) ?_)
 all_goals (go_ret; refine ⟨_, rfl, ⟨rfl, .inr ⟨_, _, _, rfl, Nat.le_refl _, heap_new _ _, Nat.zero_le _, A.out, ?_, by simp⟩⟩, rfl, rfl, rfl, by (show w.heap.size ≤ (w.heap.push _).size); rw [Array.size_push]; omega, fun k hk => heap_old _ _ hk⟩)
 all_goals (simp [Builtin.zeroCells]; omega)

theorem grow155 (n : Nat) (w : World) (hbig : n * 8 ≤ 140737488355328) :
 Calls Tryz.prog 155 #[.slice none 0 0, .int .i64 n] w fun e w' => ∃ v, e = .returned v ∧ w'.ownsRow w.heap.size 3 1 v 0 [] ∧ (n = 0 → v = .slice none 0 0) ∧ Below w.heap.size w w' := by
 rcases Nat.eq_zero_or_pos n with rfl | hn
 ·refine (grow155_zero w).mono fun e w' h => ?_
  obtain ⟨rfl, rfl⟩ := h
  exact ⟨_, rfl, ⟨rfl, .inl ⟨rfl, rfl⟩⟩, fun _ => rfl, Below.refl _ _⟩
 ·refine (grow155_pos n w hn hbig).mono fun e w' h => ?_
  obtain ⟨v, rfl, h1, h2⟩ := h
  exact ⟨v, rfl, h1, fun h0 => by omega, h2⟩

set_option maxHeartbeats 8000000 in
set_option maxRecDepth 1000000 in
theorem concat138 (xa : Option Addr) (xb xo N xc : Nat) (ra : Nat → Option Addr) (nn rc : Nat → Nat) (ne : Nat → List Value) (w : World) (hxa : 0 < N → xa = some ⟨xb, xo, none⟩) (hN : Hid (N ≤ maxLen))
 (hc : Aside (∀ j, j < N → w.cell? ⟨xb, xo + j, none⟩ = some (.slice (ra j) (nn j) (rc j)))) (hr : Aside (∀ j, j < N → RowAt w 1 (ra j) (nn j) (ne j))) (hbig : Aside (tot nn N * 8 ≤ 140737488355328)) :
 Calls Tryz.prog 138 #[.slice xa N xc] w fun e w' => ∃ v, e = .returned v ∧ w'.ownsRow w.heap.size 3 1 v (tot nn N) (cat ne N) ∧ (tot nn N = 0 → v = .slice none 0 0) ∧ Below w.heap.size w w' := by
 obtain ⟨i0, hi, hz0, hz1, hz2⟩ := info_parts INFO3
 have B : Aside (i0.size = 1 ∧ i0.bytes = 8) := ⟨hz1, hz2⟩
 clear hz1 hz2
 go_enter Tryz.func138, Tryz.ntmps138
 go_wp2
 go_loopg [3, 11] N (fun k s c wr => ∃ j, k = N - j ∧ j ≤ N ∧ s = .int .i64 (tot nn j : Nat) ∧ c = .int .i64 j ∧ w = wr)
 case atStart => exact ⟨0, rfl, Nat.zero_le _, rfl, rfl, rfl⟩
 case round =>
  obtain ⟨j, hk, hj, rfl, rfl, rfl⟩ := hrel
  by_cases hlt : j < N
  ·obtain rfl := hxa (by omega)
   have hx := hc.out j hlt
   have hlt' : (j : Int) < (N : Int) := by omega
   have hw : wrap64 ((tot nn j : Int) + (nn j : Int)) = ((tot nn (j + 1) : Nat) : Int) := by
    have := tot_mono nn (i := j + 1) (j := N) (by omega)
    have := hbig.out
    exact wrap_add (by simp only [tot] at *; unfold maxLen; omega)
   have hneg : ¬ (((tot nn (j + 1) : Nat) : Int) < 0) := by omega
   go_wp2
   go_roundg (N - (j + 1))
   case measure => omega
   case rel => exact ⟨j + 1, rfl, by omega, rfl, by simp; exact wrap_add (a := j) (b := 1) (by have := hN.out; omega), rfl⟩
  ·obtain rfl : j = N := by omega
   have hg := grow155 (tot nn j) w hbig.out
   go_wp2_with (go_at_call 155; refine hg.mono ?_; rintro e w' ⟨v, rfl, hown, hnil, hbel⟩)
   clear hg
   go_loopg [6, 27] j (fun k d c wq => ∃ i, k = j - i ∧ i ≤ j ∧ c = .int .i64 i ∧ wq.ownsRow w.heap.size 3 1 d (tot nn i) (cat ne i) ∧ (tot nn j = 0 → d = .slice none 0 0) ∧ Below w.heap.size w wq)
   case atStart => exact ⟨0, rfl, Nat.zero_le _, rfl, hown, hnil, hbel⟩
   case round =>
    obtain ⟨i, hk, hi2, rfl, hown2, hnil2, hbel2⟩ := hrel
    by_cases hlt2 : i < j
    ·obtain rfl := hxa (by omega)
     have hx : wr.cell? ⟨xb, xo + i, none⟩ = some (.slice (ra i) (nn i) (rc i)) := by
      have := hc.out i hlt2
      rw [← this]
      exact World.cell?_of_block (hbel2.block xb (World.block_lt_of_cell? _ _ this))
     obtain ⟨v2, w2, hrun, hown3, hgr, hnil3⟩ := run_append_rowAt (P := Tryz.prog) w.heap.size 26 26 3 i0 (.int .i64 0) 1 8 Tryz.underlying26 hi hz0 B.out.1 B.out.2 rfl (by decide) _ _ _ hown2 (ra i) (nn i) (rc i) (ne i) (hr.out i hlt2) hbel2.block
      (by have := tot_mono nn (i := i + 1) (j := j) (by omega); have := hbig.out; simp only [tot] at *; unfold maxLen; omega) (by have := tot_mono nn (i := i + 1) (j := j) (by omega); have := hbig.out; simp only [tot] at *; omega) hbel2.size
     have hbel3 : Below w.heap.size w w2 := by
      refine hbel2.trans ⟨hgr.os, hgr.tape, hgr.output, hgr.size, fun k hk => hgr.block k (Nat.lt_of_lt_of_le hk hbel2.size) fun he => ?_⟩
      rcases hown2.2 with ⟨h1, _⟩ | ⟨g, cap, cur, h1, h2, _⟩
      ·rw [h1] at he; simp [Value.ownBlock] at he
      ·rw [h1] at he; simp [Value.ownBlock] at he; omega
     have hnil4 : tot nn j = 0 → v2 = .slice none 0 0 := fun h0 => by
      have := tot_mono nn (i := i + 1) (j := j) (by omega)
      rw [hnil3 (by simp only [tot] at *; omega), hnil2 h0]
     have hlt3 : (i : Int) < (j : Int) := by omega
     have H : Aside (w2.ownsRow w.heap.size 3 1 v2 (tot nn (i + 1)) (cat ne (i + 1)) ∧ (tot nn j = 0 → v2 = .slice none 0 0) ∧ Below w.heap.size w w2) := ⟨hown3, hnil4, hbel3⟩
     clear hown3 hnil4 hbel3 hnil3 hgr hown2 hnil2 hbel2 hown hnil hbel
     go_wp2_with (at_builtin; refine Lib.wpList_append_run _ rfl _ _ _ _ rfl _ _ rfl rfl _ _ hrun ?_)
     go_roundg (j - (i + 1))
     case measure => omega
     case rel => exact ⟨i + 1, rfl, by omega, by simp; exact wrap_add (a := i) (b := 1) (by have := hN.out; omega), H.out.1, H.out.2⟩
    ·obtain rfl : i = j := by omega
     go_wp2
     go_ret
     exact ⟨_, rfl, hown2, hnil2, hbel2⟩

def C138 : List AV → Option AV := specP (X := List (List Int) × Unit) fun x => slices_Concat_int x.1
theorem C138_eq {s : List (List Int)} {y} (h : slices_Concat_int s = some y) : C138 [av .shr s] = some (Res.res y) := zag (X := List (List Int) × Unit) (F := fun x => slices_Concat_int x.1) (x := (s, ())) h
theorem pc138 : PC Tryz.prog 138 C138 :=
 pc_concat (α := Int) (e := 3) (bytes := 8) ⟨Tryz.f138, Tryz.func138, by kernel_rfl, by kernel_rfl⟩
  fun xa xb xo N xc ra nn rc ne w h1 h2 h3 h4 h5 => concat138 xa xb xo N xc ra nn rc ne w h1 h2 h3 h4 h5

set_option maxHeartbeats 2000000 in
set_option maxRecDepth 100000 in
theorem clone97_nil (n c : Nat) (w : World) : Calls Tryz.prog 97 #[.slice none n c] w fun e w' => e = .returned (.slice none 0 0) ∧ w' = w := by
 have q26 : ∀ (w : World) (a : Option Addr) (n c n' c' : Nat), (binOp .eql 26 (.slice a n c) (.slice none n' c')).run Tryz.prog w = .ok (.bool a.isNone) w := fun w a n c n' c' => Lib.run_eql_slice_nil w _ _ a n c n' c' Tryz.underlying26
 go_enter Tryz.func97, Tryz.ntmps97
 go_wp2
 go_ret
 exact ⟨rfl, rfl⟩

set_option maxHeartbeats 2000000 in
set_option maxRecDepth 100000 in
theorem clone97_zero (a : Addr) (c : Nat) (w : World) :
 Calls Tryz.prog 97 #[.slice (some a) 0 c] w fun e w' => ∃ b, e = .returned (.slice b 0 0) ∧ w' = w.alloc (.cells #[] 3) := by
 have q26 : ∀ (w : World) (a : Option Addr) (n c n' c' : Nat), (binOp .eql 26 (.slice a n c) (.slice none n' c')).run Tryz.prog w = .ok (.bool a.isNone) w := fun w a n c n' c' => Lib.run_eql_slice_nil w _ _ a n c n' c' Tryz.underlying26
 go_enter Tryz.func97, Tryz.ntmps97
 go_wp2
 go_ret
 exact ⟨_, rfl, rfl⟩

set_option maxHeartbeats 2000000 in
set_option maxRecDepth 100000 in
theorem clone97_row (b off n c : Nat) (vs : List Value) (w : World) (hlen : vs.length = n * 1) (hbig : n * 8 ≤ 140737488355328) (hsc : ∀ u ∈ vs, scal u = true) (hc : ∀ j u, vs[j]? = some u → w.cell? ⟨b, off + j, none⟩ = some u) :
 Calls Tryz.prog 97 #[.slice (some ⟨b, off, none⟩) n c] w fun e w' => ∃ v', e = .returned v' ∧ w'.ownsRow w.heap.size 3 1 v' n vs ∧ Below w.heap.size w w' := by
 obtain ⟨i0, hi, hz0, hz1, hz2⟩ := info_parts INFO3
 have q26 : ∀ (w : World) (a : Option Addr) (n c n' c' : Nat), (binOp .eql 26 (.slice a n c) (.slice none n' c')).run Tryz.prog w = .ok (.bool a.isNone) w := fun w a n c n' c' => Lib.run_eql_slice_nil w _ _ a n c n' c' Tryz.underlying26
 have u26 : ∀ w, Sem.run Tryz.prog (underlying 26) w = .ok (TypeDesc.slice 3) w := run_underlying Tryz.underlying26
 have A : Aside (∀ j u, vs[j]? = some u → w.cell? ⟨b, off + j, none⟩ = some u) := hc
 clear hc
 go_enter Tryz.func97, Tryz.ntmps97
 go_wp2_with (at_builtin; refine wpList_append_own _ rfl _ _ 26 rfl w.heap.size 3 i0 (.int .i64 0) 1 8 Tryz.underlying26 hi hz0 hz1 hz2 rfl (by decide) _ _ _ rfl (World.ownsRow_made w #[] 0 (Nat.le_refl _) (Nat.zero_le _) rfl) ⟨b, off, none⟩ n c vs rfl ?qc1 ?qc2 ?qc3 ?qc4 ?qc5 ?qc6 ?_)
 case qc1 => exact hlen
 case qc2 =>
  intro j u hj
  rw [Addr.add_lit]
  exact Lib.cell?_alloc_some _ (A.out j u hj)
 case qc3 =>
  intro u hu
  have := hsc u hu
  cases u <;> first | rfl | cases this
 case qc4 => unfold maxLen; omega
 case qc5 => omega
 case qc6 => simp
 intro v' w1 hown hgrow hnil
 go_wp2
 go_ret
 refine ⟨_, rfl, by simpa using hown, ?_⟩
 refine ⟨hgrow.os, hgrow.tape, hgrow.output, ?_, fun k hk => ?_⟩
 ·have := hgrow.size; rw [World.size_alloc] at this; omega
 ·rw [hgrow.block k (by rw [World.size_alloc]; omega) (by simp [Value.ownBlock]; omega), heap_old w _ hk]

def C97 : List AV → Option AV := specP (X := List Int × Unit) fun x => slices_Clone_int x.1
theorem C97_eq {s : List Int} {y} (h : slices_Clone_int s = some y) : C97 [av .shr s] = some (Res.res y) := zag (X := List Int × Unit) (F := fun x => slices_Clone_int x.1) (x := (s, ())) h
theorem pc97 : PC Tryz.prog 97 C97 :=
 pc_clone (α := Int) (e := 3) (bytes := 8) ⟨Tryz.f97, Tryz.func97, by kernel_rfl, by kernel_rfl⟩ clone97_nil
  (fun a c w => (clone97_zero a c w).mono fun e w' h => by
   obtain ⟨b, rfl, rfl⟩ := h
   exact ⟨b, rfl, rfl, rfl, rfl, by rw [World.size_alloc]; omega, fun k hk => heap_old w _ hk⟩)
  clone97_row

theorem sub_wrap (x : Int) : subI x 1 = wrap64 (x - 1) := Go.IntWalk.i64_left _
theorem zero3 (w : World) : (zeroValue 3).run Tryz.prog w = .ok (.int .i64 0) w := by kernel_rfl

set_option maxHeartbeats 4000000 in
set_option maxRecDepth 1000000 in
theorem del156 (blk cap i j : Nat) (d : Array Int) (w : World) (hH : Holds (Value.int .i64) w blk 0 d) (hcap : d.size ≤ cap) (hij : i < j) (hj : j ≤ d.size) :
 Calls Tryz.prog 156 #[.slice (some ⟨blk, 0, none⟩) d.size cap, .int .i64 i, .int .i64 j] w fun e w' => e = .returned (.slice (some ⟨blk, 0, none⟩) (d.size - (j - i)) cap) ∧
  ∃ q, w' = putRow (Value.int .i64) (Sort.ahead w q) blk 0 (d.toList.take i ++ d.toList.drop j ++ List.replicate (j - i) 0).toArray := by
 obtain ⟨i0, hi0, hz0, hz1, hz2⟩ := info_parts INFO3
 have t26 := Tryz.underlying26
 have mixed : Tryz.prog.follows .mixedOrders = true := by kernel_rfl
 have u26 : ∀ w, Sem.run Tryz.prog (underlying 26) w = .ok (TypeDesc.slice 3) w := run_underlying Tryz.underlying26
 obtain ⟨news, hnews⟩ : ∃ news, news = (d.toList.drop j).map (Value.int .i64) := ⟨_, rfl⟩
 have hlen : news.length = d.size - j := by rw [hnews]; simp
 have hget : ∀ t, t < d.size - j → news[t]? = some (.int .i64 d[j + t]!) := by
  intro t ht
  rw [hnews, List.getElem?_map, List.getElem?_drop, Array.getElem?_toList, getElem!_pos d (j + t) (by omega), Array.getElem?_eq_getElem (by omega)]
  rfl
 obtain ⟨A, hA, hsrc⟩ : ∃ A : Addr, (if cap = j then some (⟨blk, 0, none⟩ : Addr) else some ⟨blk, j, none⟩) = some A ∧ Hid (∀ t u, news[t]? = some u → w.drew.cell? (A.add t) = some u) := by
  by_cases h : cap = j
  ·refine ⟨⟨blk, 0, none⟩, by simp [h], fun t u hu => ?_⟩
   have h0 : news.length = 0 := by rw [hlen]; omega
   rw [List.length_eq_zero_iff.1 h0] at hu
   simp at hu
  ·refine ⟨⟨blk, j, none⟩, by simp [h], fun t u hu => ?_⟩
   have ht : t < d.size - j := by
    have := (List.getElem?_eq_some_iff.1 hu).1
    rwa [hlen] at this
   rw [hget t ht] at hu
   have := (hH (j + t) (by omega)).1
   rw [Nat.zero_add] at this
   rw [Addr.add_lit]
   exact this.trans hu
 have s1 : Hid (news.length = (d.size - j) * 1) := by rw [Nat.mul_one]; exact hlen
 have s2 : Hid (∀ u ∈ news, u.oneCell' = true) := by
  intro u hu
  rw [hnews] at hu
  obtain ⟨x, _, rfl⟩ := List.mem_map.1 hu
  rfl
 have s3 : Hid (∀ t, t < news.length → (w.drew.cell? ⟨blk, 0 + i * 1 + t, none⟩).isSome = true ∧ w.drew.frozen? ⟨blk, 0 + i * 1 + t, none⟩ = false) := by
  intro t ht
  rw [hlen] at ht
  rw [Nat.mul_one, Nat.add_assoc]
  exact ⟨by show (w.cell? _).isSome = true; rw [(hH (i + t) (by omega)).1]; rfl, (hH (i + t) (by omega)).2⟩
 obtain ⟨W1, hW1⟩ : ∃ W1, W1 = w.drew.setCells blk (0 + i * 1) news := ⟨_, rfl⟩
 have hW1' : W1 = putRow (Value.int .i64) (Sort.ahead w 1) blk 0 (lay d i (d.toList.drop j)) := by
  rw [hW1, hnews, Nat.mul_one, ← putRow_setCells (Value.int .i64) (Sort.ahead w 1) blk 0 _ d i (by simp; omega), putRow_self (Value.int .i64) (Sort.ahead w 1) blk 0 d (holds_ahead (Value.int .i64) w 1 blk 0 d hH)]
  rfl
 have hH1 : Holds (Value.int .i64) W1 blk 0 (lay d i (d.toList.drop j)) := by rw [hW1']; exact holds_putRow (Value.int .i64) _ blk 0 d _ (holds_ahead (Value.int .i64) w 1 blk 0 d hH) (lay_size _ _ _)
 have hcl : ∀ ty, (Builtin.clear_ #[26] ty #[.slice (some ⟨blk, i + (d.size - j), none⟩) (d.size - (i + (d.size - j))) (cap - (i + (d.size - j)))]).run Tryz.prog W1 = .ok (.tuple #[]) (W1.setCells blk (i + (d.size - j)) (List.replicate (d.size - (i + (d.size - j))) (.int .i64 0))) :=
  fun ty => Lib.run_clear_slice W1 _ _ ty _ t26 zero3 rfl rfl blk (i + (d.size - j)) _ _ (by omega) (fun t ht => by have := (hH1 (i + (d.size - j) + t) (by rw [lay_size]; omega)).1; rw [Nat.zero_add] at this; rw [this]; rfl) (fun t ht => by have := (hH1 (i + (d.size - j) + t) (by rw [lay_size]; omega)).2; rwa [Nat.zero_add] at this)
 have X : Aside (W1 = putRow (Value.int .i64) (Sort.ahead w 1) blk 0 (lay d i (d.toList.drop j))) := hW1'
 have hW : Hid (W1 = w.drew.setCells blk (0 + i * 1) news) := hW1
 have hic : i ≤ cap := by omega
 have hjc : j ≤ cap := by omega
 have hq : ¬ ((i : Int) = (j : Int)) := by omega
 clear hW1 hW1' hH1 hH hget hnews hlen
 go_enter Tryz.func156, Tryz.ntmps156
 go_wp2_with fail
 go_region_law_o (refine step_append_room rfl (.tmp 22) (.tmp 25) 26 rfl 3 i0 1 t26 hi0 hz1 blk 0 i cap (by simp [Act.eval, Act.put]) A (d.size - j) (cap - j) news (by simp [Act.eval, Act.put]) s1.out hsrc.out s2.out (by omega) s3.out ?_; rw [← hW.out])
 go_wp2
 go_ret
 refine ⟨by rw [show d.size - (j - i) = i + (d.size - j) by omega]; rfl, 1, ?_⟩
 rw [← delete_arr d i j 0 (by omega) hj, ← putRow_setCells (Value.int .i64) _ blk 0 _ _ (i + (d.size - j)) (by rw [lay_size]; simp; omega), ← X.out, List.map_replicate, show d.size - (i + (d.size - j)) = j - i by omega]
 simp


set_option maxHeartbeats 4000000 in
set_option maxRecDepth 1000000 in
theorem without143 (d1 d2 : Array Int) (n1 n2 c c1 c2 b1 b2 : Nat) (w : World) (e1 : d1.size = n1) (e2 : d2.size = n2) (hx : n1 ≤ 1000000) (hy : n2 ≤ 1000000) (hc : c < n2) (hne : b1 ≠ b2) (hb1 : b1 < w.heap.size) (hb2 : b2 < w.heap.size)
 (H1 : Holds (Value.int .i64) w b1 0 d1) (H2 : Holds (Value.int .i64) w b2 0 d2) (hc1 : n1 ≤ c1) (hc2 : n2 ≤ c2) :
 Calls Tryz.prog 143 #[.agg #[.slice (some ⟨b1, 0, none⟩) n1 c1, .slice (some ⟨b2, 0, none⟩) n2 c2], .int .i64 c] w fun e w' =>
  e = .returned (.agg #[.slice (some ⟨b1, 0, none⟩) n1 c1, .slice (some ⟨b2, 0, none⟩) (n2 - 1) c2]) ∧ Two w w' b1 b2 (d1.toList.map (decI c)) ((d2.toList.take c ++ d2.toList.drop (c + 1)).map (decI c)) := by
 have u26 : ∀ w, Sem.run Tryz.prog (underlying 26) w = .ok (TypeDesc.slice 3) w := run_underlying Tryz.underlying26
 have u112 : ∀ w, Sem.run Tryz.prog (underlying 158) w = .ok (TypeDesc.slice 26) w := run_underlying Tryz.underlying158
 have hdel : Hid (∀ W, Holds (Value.int .i64) W b2 0 d2 → Calls Tryz.prog 156 #[.slice (some ⟨b2, 0, none⟩) n2 c2, .int .i64 c, .int .i64 ((c : Int) + 1)] W fun e w' => e = .returned (.slice (some ⟨b2, 0, none⟩) (n2 - 1) c2) ∧
  ∃ q, w' = putRow (Value.int .i64) (Sort.ahead W q) b2 0 (d2.toList.take c ++ d2.toList.drop (c + 1) ++ [0]).toArray) := by
  intro W hW
  have := del156 b2 c2 c (c + 1) d2 W hW (by omega) (by omega) (by omega)
  rw [e2, show c + 1 - c = 1 by omega] at this
  simpa using this
 have HA : Hid (Holds (Value.int .i64) w b1 0 d1 ∧ Holds (Value.int .i64) w b2 0 d2) := ⟨H1, H2⟩
 have HB : Hid (d1.size = n1 ∧ d2.size = n2) := ⟨e1, e2⟩
 have w1 : wrap64 ((c : Int) + 1) = c + 1 := by unfold wrap64; omega
 clear H1 H2 e1 e2
 have HW0 : Hid (Holds (Value.int .i64) ((w.alloc (.cells #[.slice (some ⟨b1, 0, none⟩) n1 c1, .slice (some ⟨b2, 0, none⟩) n2 c2] 31)).alloc (.cells #[.slice none 0 0, .slice none 0 0] 31)) b2 0 d2) := by
  intro j hj
  have := HA.out.2 j hj
  have e : ((w.alloc (.cells #[.slice (some ⟨b1, 0, none⟩) n1 c1, .slice (some ⟨b2, 0, none⟩) n2 c2] 31)).alloc (.cells #[.slice none 0 0, .slice none 0 0] 31)).heap[b2]? = w.heap[b2]? := by rw [heapA _ _ (by simp; omega), heapA _ _ hb2]
  unfold World.cell? World.frozen? at *
  simp only [e] at *
  exact this
 go_enter Tryz.func143, Tryz.ntmps143
 go_wp2_with fail
 refine (hdel.out _ HW0.out).mono ?_
 rintro e W ⟨rfl, q, hW⟩
 obtain ⟨⟨k0, k1, k2, k3⟩, hJ⟩ := WJ.start (s2' := .slice (some ⟨b2, 0, none⟩) (n2 - 1) c2) (ty' := 26) hne hb1 hb2 HA.out.1 HA.out.2 (by simp [HB.out.2]; omega) hW
 have J0 : Hid _ := hJ
 clear hJ hW HW0 hdel
 obtain ⟨D2, hD⟩ : ∃ D2, D2 = (d2.toList.take c ++ d2.toList.drop (c + 1) ++ [0]).toArray := ⟨_, rfl⟩
 rw [← hD] at J0
 have HD : Hid (D2.size = n2) := by show D2.size = n2; rw [hD]; simp [HB.out.2]; omega
 have HE : Hid (D2 = (d2.toList.take c ++ d2.toList.drop (c + 1) ++ [0]).toArray) := hD
 clear hD
 have hn : n2 - 1 ≤ c2 := by omega
 go_wp2
 clear k0 k1 k2 k3
 go_loopg [22] 2 (fun k s22 wr => ∃ j : Nat, k = 2 - j ∧ j ≤ 2 ∧ s22 = .int .i64 j ∧ WJ w wr b1 b2 w.heap.size (w.heap.size + 1) (w.heap.size + 2) (.slice (some ⟨b1, 0, none⟩) n1 c1) (.slice (some ⟨b2, 0, none⟩) (n2 - 1) c2) (decTo c d1 (if 1 ≤ j then n1 else 0)) (decTo c D2 (if 2 ≤ j then n2 - 1 else 0)))
 case atStart => exact ⟨0, rfl, by omega, rfl, by simpa [decTo_zero] using J0.out⟩
 clear J0
 obtain ⟨j, hk, hj, rfl, hJ⟩ := hrel
 have hcase : j = 0 ∨ j = 1 ∨ j = 2 := by omega
 rcases hcase with rfl | rfl | rfl
 ·have JA : Hid (WJ w wr b1 b2 w.heap.size (w.heap.size + 1) (w.heap.size + 2) (.slice (some ⟨b1, 0, none⟩) n1 c1) (.slice (some ⟨b2, 0, none⟩) (n2 - 1) c2) d1 D2) := by unfold Hid; simpa [decTo_zero] using hJ
  have g0 := hJ.hg0
  clear hJ
  go_wp2
  clear g0
  go_loopg [28] n1 (fun k s28 wq => ∃ i : Nat, k = n1 - i ∧ i ≤ n1 ∧ s28 = .int .i64 i ∧ WJ w wq b1 b2 w.heap.size (w.heap.size + 1) (w.heap.size + 2) (.slice (some ⟨b1, 0, none⟩) n1 c1) (.slice (some ⟨b2, 0, none⟩) (n2 - 1) c2) (decTo c d1 i) D2)
  case atStart => exact ⟨0, rfl, Nat.zero_le _, rfl, by rw [decTo_zero]; exact JA.out⟩
  case round =>
   obtain ⟨i, hk2, hi, rfl, hQ⟩ := hrel
   have JQ : Hid _ := hQ
   clear hQ
   by_cases hlt : i < n1
   ·obtain ⟨p1, p2⟩ := JQ.out.h1 i (by rw [decTo_size, HB.out.1]; omega)
    rw [decTo_at _ _ _ (by rw [HB.out.1]; omega)] at p1
    obtain ⟨x, hx⟩ : ∃ x, x = d1[i]! := ⟨_, rfl⟩
    rw [← hx] at p1
    rw [Nat.zero_add] at p1 p2
    have HX : Hid (x = d1[i]!) := hx
    clear hx
    have hlt' : (i : Int) < (n1 : Nat) := by omega
    by_cases hgt : (c : Int) < x
    ·have hgt' : x > (c : Int) := hgt
     go_wp2
     go_roundg (n1 - (i + 1))
     case measure => omega
     case rel =>
      refine ⟨i + 1, rfl, by omega, by simp, ?_⟩
      rw [← decTo_succ _ _ _ (by rw [HB.out.1]; omega), ← HX.out, decI, if_pos hgt, sub_wrap]
      have h := JQ.out.set1 hne (by omega) (by omega) (by omega) (i := i) (by rw [decTo_size, HB.out.1]; omega) (wrap64 (x - 1))
      rw [Nat.zero_add] at h
      exact h
    ·have hgt' : ¬ x > (c : Int) := hgt
     go_wp2
     go_roundg (n1 - (i + 1))
     case measure => omega
     case rel =>
      refine ⟨i + 1, rfl, by omega, by simp, ?_⟩
      have e : (decTo c d1 i).setIfInBounds i (decI c d1[i]!) = decTo c d1 i := by
       rw [← HX.out, decI, if_neg (by omega), HX.out, ← decTo_at c _ _ (by rw [HB.out.1]; omega)]
       exact setI_same _ _
      rw [← decTo_succ _ _ _ (by rw [HB.out.1]; omega), e]
      exact JQ.out
   ·obtain rfl : i = n1 := by omega
    go_wp2
    go_roundg (2 - 1)
    case measure => omega
    case rel => exact ⟨1, rfl, by omega, by simp, JQ.out⟩
 ·have JA : Hid (WJ w wr b1 b2 w.heap.size (w.heap.size + 1) (w.heap.size + 2) (.slice (some ⟨b1, 0, none⟩) n1 c1) (.slice (some ⟨b2, 0, none⟩) (n2 - 1) c2) (decTo c d1 n1) D2) := by unfold Hid; simpa [decTo_zero] using hJ
  have g1 := hJ.hg1
  clear hJ
  go_wp2
  clear g1
  go_loopg [28] (n2 - 1) (fun k s28 wq => ∃ i : Nat, k = (n2 - 1) - i ∧ i ≤ (n2 - 1) ∧ s28 = .int .i64 i ∧ WJ w wq b1 b2 w.heap.size (w.heap.size + 1) (w.heap.size + 2) (.slice (some ⟨b1, 0, none⟩) n1 c1) (.slice (some ⟨b2, 0, none⟩) (n2 - 1) c2) (decTo c d1 n1) (decTo c D2 i))
  case atStart => exact ⟨0, rfl, Nat.zero_le _, rfl, by rw [decTo_zero]; exact JA.out⟩
  case round =>
   obtain ⟨i, hk2, hi, rfl, hQ⟩ := hrel
   have JQ : Hid _ := hQ
   clear hQ
   by_cases hlt : i < (n2 - 1)
   ·obtain ⟨p1, p2⟩ := JQ.out.h2 i (by rw [decTo_size, HD.out]; omega)
    rw [decTo_at _ _ _ (by rw [HD.out]; omega)] at p1
    obtain ⟨x, hx⟩ : ∃ x, x = D2[i]! := ⟨_, rfl⟩
    rw [← hx] at p1
    rw [Nat.zero_add] at p1 p2
    have HX : Hid (x = D2[i]!) := hx
    clear hx
    have hlt' : (i : Int) < ((n2 - 1) : Nat) := by omega
    by_cases hgt : (c : Int) < x
    ·have hgt' : x > (c : Int) := hgt
     go_wp2
     go_roundg ((n2 - 1) - (i + 1))
     case measure => omega
     case rel =>
      refine ⟨i + 1, rfl, by omega, by simp, ?_⟩
      rw [← decTo_succ _ _ _ (by rw [HD.out]; omega), ← HX.out, decI, if_pos hgt, sub_wrap]
      have h := JQ.out.swap hne (by omega) (by omega) (by omega) (i := i) (by rw [decTo_size, HD.out]; omega) (wrap64 (x - 1))
      rw [Nat.zero_add] at h
      exact h
    ·have hgt' : ¬ x > (c : Int) := hgt
     go_wp2
     go_roundg ((n2 - 1) - (i + 1))
     case measure => omega
     case rel =>
      refine ⟨i + 1, rfl, by omega, by simp, ?_⟩
      have e : (decTo c D2 i).setIfInBounds i (decI c D2[i]!) = decTo c D2 i := by
       rw [← HX.out, decI, if_neg (by omega), HX.out, ← decTo_at c _ _ (by rw [HD.out]; omega)]
       exact setI_same _ _
      rw [← decTo_succ _ _ _ (by rw [HD.out]; omega), e]
      exact JQ.out
   ·obtain rfl : i = (n2 - 1) := by omega
    go_wp2
    go_roundg (2 - 2)
    case measure => omega
    case rel => exact ⟨2, rfl, by omega, by simp, JQ.out⟩
 ·have JA : Hid (WJ w wr b1 b2 w.heap.size (w.heap.size + 1) (w.heap.size + 2) (.slice (some ⟨b1, 0, none⟩) n1 c1) (.slice (some ⟨b2, 0, none⟩) (n2 - 1) c2) (decTo c d1 n1) (decTo c D2 (n2 - 1))) := by unfold Hid; simpa using hJ
  have x0 := hJ.hh0
  have x1 := hJ.hh1
  obtain ⟨z0, z1, ty, hz⟩ := hJ.hr
  have y0 : wr.cell? ⟨w.heap.size + 1, 0, none⟩ = some z0 := (cellH hz).1
  have y1 : wr.cell? ⟨w.heap.size + 1, 1, none⟩ = some z1 := (cellH hz).1
  have f0 : wr.frozen? ⟨w.heap.size + 1, 0, none⟩ = false := (cellH hz).2
  have f1 : wr.frozen? ⟨w.heap.size + 1, 1, none⟩ = false := (cellH hz).2
  clear hJ hz
  go_wp2
  have hL : (d2.toList.take c ++ d2.toList.drop (c + 1)).length = n2 - 1 := by
   have := HB.out.2
   simp
   omega
  have hJ := JA.out
  rw [← hL, ← HB.out.1] at hJ
  obtain ⟨⟨ty2, hr⟩, hT⟩ := hJ.done HE.out (by omega) (by omega) (by omega)
  rw [hL, HB.out.1] at hr hT
  exact bodyPost_ret (results_cell_row (ty := 31) rfl _ _ (w.heap.size + 1) ty2 #[.slice (some ⟨b1, 0, none⟩) n1 c1, .slice (some ⟨b2, 0, none⟩) (n2 - 1) c2] (0, 0) _ rfl hr Tryz.underlying31 rfl (by kernel_rfl)) rfl ⟨rfl, hT⟩

def C143 : List AV → Option AV := specOS (X := THeap × Int × Unit) fun x => impl_Heap_without x.1 x.2.1
theorem C143_eq {h : THeap} {c : Int} {y} (e : impl_Heap_without h c = some y) : C143 [av .own h, av .own c] = some (av .shr y) := specOS_eq (X := THeap × Int × Unit) (F := fun x => impl_Heap_without x.1 x.2.1) (x := (h, c, ())) e
theorem po143 : PO Tryz.prog 143 C143 :=
 po_without ⟨Tryz.f143, Tryz.func143, by kernel_rfl, by kernel_rfl⟩ fun xs ys c w b1 b2 c1 c2 h1 h2 h3 h4 h5 h6 h7 h8 h9 h10 => by
  have := without143 xs.toArray ys.toArray xs.length ys.length c c1 c2 b1 b2 w (by simp) (by simp) h1 h2 h3 h4 h5 h6 h7 h8 h9 h10
  simpa using this
end Go.Proofs


set_option maxHeartbeats 4000000
set_option maxRecDepth 100000
namespace Go.Proofs
open Go.Ev
def C43 : List AV → Option AV := specP (X := (List ByteArray) × Int × Unit) fun x => laws_szStringS x.1 x.2.1
theorem C43_eq {a_ left} {y} (h : laws_szStringS a_ left = some y) : C43 [av .shr a_, av .shr left] = some (Res.res y) := zag (x := (a_, left, ())) h
def g43 : Cfg := { P := Tryz.prog, take := [], keep := [((43, 5), { hd := [0, 1, 5], bx := [], ex := [1], rt := [4] })], gho := [], ctx := [] }
@[simp] theorem g43_s : g43.P = Tryz.prog ∧ g43.ctx = [] ∧ Pl0 g43 := by simp [g43]
theorem w43 {a_ left} {y} (hp : laws_szStringS a_ left = some y) : ∃ m, callo g43 0 43 [av .shr a_, av .shr left] mem0 = some (Res.res y, m) := by
 refine st0 [.tmp 4] Tryz.func43 ?_
 unfold laws_szStringS at hp
 simp [Tryz.f43]
 rcases zad hp with ⟨h_1, hp⟩ | ⟨h_1, hp⟩
 ·try simp at h_1
  cases hp
  simp [Goal, FnEnd, h_1]
 ·try simp at h_1
  try simp [h_1]
  obtain ⟨r_16, h_17, hp⟩ := zab hp
  obtain ⟨I_4, I_4_⟩ := exV fun (s_2 : Int × Int) (σ : St) => (σ.env 0 = uL .shr a_ ∧ σ.env 1 = uI s_2.1 ∧ σ.env 5 = uI s_2.2) ∧ σ.mem = mem0
  obtain ⟨X_5, X_5_⟩ := exV fun (r_16 : (Int) ⊕ (Int)) (out : Out) => Sum.elim (fun r_16 => ∃ σ : St, out = .ret σ ∧ σ.env 4 = uI r_16 ∧ σ.mem = mem0) (fun r_16 => ∃ σ : St, out = .exit 0 σ ∧ σ.env 1 = uI r_16 ∧ σ.mem = mem0) r_16
  refine loopP ({ hd := [0, 1, 5], bx := [], ex := [1], rt := [4] }) I_4 X_5 h_17 (by exact rfl) ?_ ?_ ?_
  ·rw [I_4_]
   exact ⟨by simp [zac, zaa, h_1], by simp [zaa, h_1]⟩
  ·intro s_2 σ_6 a_3 hI hp
   rw [I_4_] at hI
   obtain ⟨q_8, q_7⟩ := hI
   try simp [h_1, q_8, q_7]
   rcases zad hp with ⟨h_9, hp⟩ | ⟨h_9, hp⟩
   ·try simp at h_9
    obtain ⟨e_10, h_11, hp⟩ := zab hp
    have b_12 := at_lo h_11
    have b_13 := at_hi h_11
    try simp at b_12 b_13
    have c_14 := seg_at' h_11 0 1 (by decide) (ds := [.sc (.string e_10)]) rfl
    try simp at c_14
    try simp [h_1, q_8, q_7, h_9, b_12, b_13, c_14]
    rcases zad hp with ⟨h_15, hp⟩ | ⟨h_15, hp⟩
    ·try simp at h_15
     cases hp
     try simp [h_1, q_8, q_7, h_9, h_15]
     refine zan ?_
     rw [X_5_]
     exact ⟨_, rfl, by simp [zac, zaa, h_1, q_8, q_7, h_9, h_15], by simp [zaa, h_1, q_8, q_7, h_9, h_15]⟩
    ·try simp at h_15
     cases hp
     try simp [h_1, q_8, q_7, h_9, h_15]
     refine zah ?_
     rw [I_4_]
     exact ⟨by simp [zac, zaa, h_1, q_8, q_7, h_9, h_15], by simp [zaa, h_1, q_8, q_7, h_9, h_15]⟩
   ·try simp at h_9
    cases hp
    try simp [h_1, q_8, q_7, h_9]
    refine zak ?_
    rw [X_5_]
    exact ⟨_, rfl, by simp [zac, zaa, h_1, q_8, q_7, h_9], by simp [zaa, h_1, q_8, q_7, h_9]⟩
  ·intro out hX
   rw [X_5_] at hX
   rcases r_16 with r_16 | r_16
   ·simp only [Sum.elim_inl, Sum.elim_inr] at hX hp
    obtain ⟨σ_18, rfl, q_20, q_19⟩ := hX
    cases hp
    simp [Goal, FnEnd, h_1, q_20, q_19]
   ·simp only [Sum.elim_inl, Sum.elim_inr] at hX hp
    obtain ⟨σ_21, rfl, q_23, q_22⟩ := hX
    cases hp
    simp [Goal, FnEnd, h_1, q_23, q_22]
theorem pc43 : PC Tryz.prog 43 C43 := pc_of (g := g43) (zai [] rfl trivial) (ent Tryz.func43) fun x y h => w43 h

def C124 : List AV → Option AV := specP (X := TStmt × Int × Unit) fun x => laws_szStmt x.1 x.2.1
theorem C124_eq {a_ left} {y} (h : laws_szStmt a_ left = some y) : C124 [av .shr a_, av .shr left] = some (Res.res y) := zag (x := (a_, left, ())) h
def g124 : Cfg := { P := Tryz.prog, take := [], keep := [], gho := [], ctx := [] }
@[simp] theorem g124_s : g124.P = Tryz.prog ∧ g124.ctx = [] ∧ Pl0 g124 := by simp [g124]
theorem w124 {a_ left} {y} (hp : laws_szStmt a_ left = some y) : ∃ m, callo g124 0 124 [av .shr a_, av .shr left] mem0 = some (Res.res y, m) := by
 refine st0 [.tmp 4] Tryz.func124 ?_
 unfold laws_szStmt at hp
 simp [Tryz.f124]
 rcases zad hp with ⟨h_1, hp⟩ | ⟨h_1, hp⟩
 ·try simp at h_1
  cases hp
  simp [Goal, FnEnd, h_1]
 ·try simp at h_1
  try simp [h_1]
  rcases zad hp with ⟨h_2, hp⟩ | ⟨h_2, hp⟩
  ·try simp at h_2
   cases hp
   simp [Goal, FnEnd, h_1, h_2]
  ·try simp at h_2
   cases hp
   simp [Goal, FnEnd, h_1, h_2]
theorem pc124 : PC Tryz.prog 124 C124 := pc_of (g := g124) (zai [] rfl trivial) (ent Tryz.func124) fun x y h => w124 h

def C75 : List AV → Option AV := specP (X := TEdge × Int × Unit) fun x => laws_szEdge x.1 x.2.1
theorem C75_eq {a_ left} {y} (h : laws_szEdge a_ left = some y) : C75 [av .shr a_, av .shr left] = some (Res.res y) := zag (x := (a_, left, ())) h
def g75 : Cfg := { P := Tryz.prog, take := [], keep := [], gho := [], ctx := [(124, C124)] }
@[simp] theorem g75_s : g75.P = Tryz.prog ∧ g75.ctx = [(124, C124)] ∧ Pl0 g75 := by simp [g75]
theorem w75 {a_ left} {y} (hp : laws_szEdge a_ left = some y) : ∃ m, callo g75 0 75 [av .shr a_, av .shr left] mem0 = some (Res.res y, m) := by
 refine st0 [.tmp 4] Tryz.func75 ?_
 unfold laws_szEdge at hp
 obtain ⟨y_1, h_2, hp⟩ := zab hp
 have c_3 := C124_eq h_2
 simp at c_3
 simp [Tryz.f75, c_3]
 rcases zad hp with ⟨h_4, hp⟩ | ⟨h_4, hp⟩
 ·try simp at h_4
  cases hp
  simp [Goal, FnEnd, h_4]
 ·try simp at h_4
  cases hp
  simp [Goal, FnEnd, h_4]
theorem pc75 : PC Tryz.prog 75 C75 := pc_of (g := g75) (zai _ g75_s.2.1 ⟨pc124, trivial⟩) (ent Tryz.func75) fun x y h => w75 h

def C44 : List AV → Option AV := specP (X := (List TEdge) × Int × Unit) fun x => laws_szEdgeS x.1 x.2.1
theorem C44_eq {a_ left} {y} (h : laws_szEdgeS a_ left = some y) : C44 [av .shr a_, av .shr left] = some (Res.res y) := zag (x := (a_, left, ())) h
def g44 : Cfg := { P := Tryz.prog, take := [], keep := [((44, 5), { hd := [0, 1, 5], bx := [], ex := [1], rt := [4] })], gho := [], ctx := [(75, C75)] }
@[simp] theorem g44_s : g44.P = Tryz.prog ∧ g44.ctx = [(75, C75)] ∧ Pl0 g44 := by simp [g44]
theorem w44 {a_ left} {y} (hp : laws_szEdgeS a_ left = some y) : ∃ m, callo g44 0 44 [av .shr a_, av .shr left] mem0 = some (Res.res y, m) := by
 refine st0 [.tmp 4] Tryz.func44 ?_
 unfold laws_szEdgeS at hp
 simp [Tryz.f44]
 rcases zad hp with ⟨h_1, hp⟩ | ⟨h_1, hp⟩
 ·try simp at h_1
  cases hp
  simp [Goal, FnEnd, h_1]
 ·try simp at h_1
  try simp [h_1]
  obtain ⟨r_19, h_20, hp⟩ := zab hp
  obtain ⟨I_4, I_4_⟩ := exV fun (s_2 : Int × Int) (σ : St) => (σ.env 0 = uL .shr a_ ∧ σ.env 1 = uI s_2.1 ∧ σ.env 5 = uI s_2.2) ∧ σ.mem = mem0
  obtain ⟨X_5, X_5_⟩ := exV fun (r_19 : (Int) ⊕ (Int)) (out : Out) => Sum.elim (fun r_19 => ∃ σ : St, out = .ret σ ∧ σ.env 4 = uI r_19 ∧ σ.mem = mem0) (fun r_19 => ∃ σ : St, out = .exit 0 σ ∧ σ.env 1 = uI r_19 ∧ σ.mem = mem0) r_19
  refine loopP ({ hd := [0, 1, 5], bx := [], ex := [1], rt := [4] }) I_4 X_5 h_20 (by exact rfl) ?_ ?_ ?_
  ·rw [I_4_]
   exact ⟨by simp [zac, zaa, h_1], by simp [zaa, h_1]⟩
  ·intro s_2 σ_6 a_3 hI hp
   rw [I_4_] at hI
   obtain ⟨q_8, q_7⟩ := hI
   try simp [h_1, q_8, q_7]
   rcases zad hp with ⟨h_9, hp⟩ | ⟨h_9, hp⟩
   ·try simp at h_9
    obtain ⟨e_10, h_11, hp⟩ := zab hp
    have b_12 := at_lo h_11
    have b_13 := at_hi h_11
    try simp at b_12 b_13
    have c_14 := seg_at' h_11 0 5 (by decide) (ds := [.sc (.int .i64 e_10.from_), .sc (.int .i64 e_10.to_), .sc (.int .i64 e_10.stmt.kind), .sc (.string e_10.stmt.a), .sc (.string e_10.stmt.b)]) rfl
    try simp at c_14
    obtain ⟨y_15, h_16, hp⟩ := zab hp
    have c_17 := C75_eq h_16
    simp at c_17
    try simp [h_1, q_8, q_7, h_9, b_12, b_13, c_14, c_17]
    rcases zad hp with ⟨h_18, hp⟩ | ⟨h_18, hp⟩
    ·try simp at h_18
     cases hp
     try simp [h_1, q_8, q_7, h_9, h_18]
     refine zan ?_
     rw [X_5_]
     exact ⟨_, rfl, by simp [zac, zaa, h_1, q_8, q_7, h_9, h_18], by simp [zaa, h_1, q_8, q_7, h_9, h_18]⟩
    ·try simp at h_18
     cases hp
     try simp [h_1, q_8, q_7, h_9, h_18]
     refine zah ?_
     rw [I_4_]
     exact ⟨by simp [zac, zaa, h_1, q_8, q_7, h_9, h_18], by simp [zaa, h_1, q_8, q_7, h_9, h_18]⟩
   ·try simp at h_9
    cases hp
    try simp [h_1, q_8, q_7, h_9]
    refine zak ?_
    rw [X_5_]
    exact ⟨_, rfl, by simp [zac, zaa, h_1, q_8, q_7, h_9], by simp [zaa, h_1, q_8, q_7, h_9]⟩
  ·intro out hX
   rw [X_5_] at hX
   rcases r_19 with r_19 | r_19
   ·simp only [Sum.elim_inl, Sum.elim_inr] at hX hp
    obtain ⟨σ_21, rfl, q_23, q_22⟩ := hX
    cases hp
    simp [Goal, FnEnd, h_1, q_23, q_22]
   ·simp only [Sum.elim_inl, Sum.elim_inr] at hX hp
    obtain ⟨σ_24, rfl, q_26, q_25⟩ := hX
    cases hp
    simp [Goal, FnEnd, h_1, q_26, q_25]
theorem pc44 : PC Tryz.prog 44 C44 := pc_of (g := g44) (zai _ g44_s.2.1 ⟨pc75, trivial⟩) (ent Tryz.func44) fun x y h => w44 h

def C8 : List AV → Option AV := specP (X := TProgram × Int × Unit) fun x => laws_szProgram x.1 x.2.1
theorem C8_eq {a_ left} {y} (h : laws_szProgram a_ left = some y) : C8 [av .shr a_, av .shr left] = some (Res.res y) := zag (x := (a_, left, ())) h
def g8 : Cfg := { P := Tryz.prog, take := [], keep := [], gho := [], ctx := [(43, C43), (44, C44)] }
@[simp] theorem g8_s : g8.P = Tryz.prog ∧ g8.ctx = [(43, C43), (44, C44)] ∧ Pl0 g8 := by simp [g8]
theorem w8 {a_ left} {y} (hp : laws_szProgram a_ left = some y) : ∃ m, callo g8 0 8 [av .shr a_, av .shr left] mem0 = some (Res.res y, m) := by
 refine st0 [.tmp 4] Tryz.func8 ?_
 unfold laws_szProgram at hp
 obtain ⟨y_1, h_2, hp⟩ := zab hp
 have c_3 := C43_eq h_2
 simp at c_3
 simp [Tryz.f8, c_3]
 rcases zad hp with ⟨h_4, hp⟩ | ⟨h_4, hp⟩
 ·try simp at h_4
  cases hp
  simp [Goal, FnEnd, h_4]
 ·try simp at h_4
  obtain ⟨y_5, h_6, hp⟩ := zab hp
  have c_7 := C44_eq h_6
  simp at c_7
  try simp [h_4, c_7]
  rcases zad hp with ⟨h_8, hp⟩ | ⟨h_8, hp⟩
  ·try simp at h_8
   cases hp
   simp [Goal, FnEnd, h_4, h_8]
  ·try simp at h_8
   cases hp
   simp [Goal, FnEnd, h_4, h_8]
theorem pc8 : PC Tryz.prog 8 C8 := pc_of (g := g8) (zai _ g8_s.2.1 ⟨pc43, pc44, trivial⟩) (ent Tryz.func8) fun x y h => w8 h

def C45 : List AV → Option AV := specP (X := (List Int) × Int × Unit) fun x => laws_szIntS x.1 x.2.1
theorem C45_eq {a_ left} {y} (h : laws_szIntS a_ left = some y) : C45 [av .shr a_, av .shr left] = some (Res.res y) := zag (x := (a_, left, ())) h
def g45 : Cfg := { P := Tryz.prog, take := [], keep := [], gho := [], ctx := [] }
@[simp] theorem g45_s : g45.P = Tryz.prog ∧ g45.ctx = [] ∧ Pl0 g45 := by simp [g45]
theorem w45 {a_ left} {y} (hp : laws_szIntS a_ left = some y) : ∃ m, callo g45 0 45 [av .shr a_, av .shr left] mem0 = some (Res.res y, m) := by
 refine st0 [.tmp 4] Tryz.func45 ?_
 unfold laws_szIntS at hp
 simp [Tryz.f45]
 rcases zad hp with ⟨h_1, hp⟩ | ⟨h_1, hp⟩
 ·try simp at h_1
  cases hp
  simp [Goal, FnEnd, h_1]
 ·try simp at h_1
  cases hp
  simp [Goal, FnEnd, h_1]
theorem pc45 : PC Tryz.prog 45 C45 := pc_of (g := g45) (zai [] rfl trivial) (ent Tryz.func45) fun x y h => w45 h

def C9 : List AV → Option AV := specP (X := THeap × Int × Unit) fun x => laws_szHeap x.1 x.2.1
theorem C9_eq {a_ left} {y} (h : laws_szHeap a_ left = some y) : C9 [av .shr a_, av .shr left] = some (Res.res y) := zag (x := (a_, left, ())) h
def g9 : Cfg := { P := Tryz.prog, take := [], keep := [], gho := [], ctx := [(45, C45)] }
@[simp] theorem g9_s : g9.P = Tryz.prog ∧ g9.ctx = [(45, C45)] ∧ Pl0 g9 := by simp [g9]
theorem w9 {a_ left} {y} (hp : laws_szHeap a_ left = some y) : ∃ m, callo g9 0 9 [av .shr a_, av .shr left] mem0 = some (Res.res y, m) := by
 refine st0 [.tmp 4] Tryz.func9 ?_
 unfold laws_szHeap at hp
 obtain ⟨y_1, h_2, hp⟩ := zab hp
 have c_3 := C45_eq h_2
 simp at c_3
 simp [Tryz.f9, c_3]
 rcases zad hp with ⟨h_4, hp⟩ | ⟨h_4, hp⟩
 ·try simp at h_4
  cases hp
  simp [Goal, FnEnd, h_4]
 ·try simp at h_4
  obtain ⟨y_5, h_6, hp⟩ := zab hp
  have c_7 := C45_eq h_6
  simp at c_7
  try simp [h_4, c_7]
  rcases zad hp with ⟨h_8, hp⟩ | ⟨h_8, hp⟩
  ·try simp at h_8
   cases hp
   simp [Goal, FnEnd, h_4, h_8]
  ·try simp at h_8
   cases hp
   simp [Goal, FnEnd, h_4, h_8]
theorem pc9 : PC Tryz.prog 9 C9 := pc_of (g := g9) (zai _ g9_s.2.1 ⟨pc45, trivial⟩) (ent Tryz.func9) fun x y h => w9 h

def C24 : List AV → Option AV := specP (X := (List THeap) × Int × Unit) fun x => laws_szHeapS x.1 x.2.1
theorem C24_eq {a_ left} {y} (h : laws_szHeapS a_ left = some y) : C24 [av .shr a_, av .shr left] = some (Res.res y) := zag (x := (a_, left, ())) h
def g24 : Cfg := { P := Tryz.prog, take := [], keep := [((24, 5), { hd := [0, 1, 5], bx := [], ex := [1], rt := [4] })], gho := [], ctx := [(9, C9)] }
@[simp] theorem g24_s : g24.P = Tryz.prog ∧ g24.ctx = [(9, C9)] ∧ Pl0 g24 := by simp [g24]
theorem w24 {a_ left} {y} (hp : laws_szHeapS a_ left = some y) : ∃ m, callo g24 0 24 [av .shr a_, av .shr left] mem0 = some (Res.res y, m) := by
 refine st0 [.tmp 4] Tryz.func24 ?_
 unfold laws_szHeapS at hp
 simp [Tryz.f24]
 rcases zad hp with ⟨h_1, hp⟩ | ⟨h_1, hp⟩
 ·try simp at h_1
  cases hp
  simp [Goal, FnEnd, h_1]
 ·try simp at h_1
  try simp [h_1]
  obtain ⟨r_19, h_20, hp⟩ := zab hp
  obtain ⟨I_4, I_4_⟩ := exV fun (s_2 : Int × Int) (σ : St) => (σ.env 0 = uL .shr a_ ∧ σ.env 1 = uI s_2.1 ∧ σ.env 5 = uI s_2.2) ∧ σ.mem = mem0
  obtain ⟨X_5, X_5_⟩ := exV fun (r_19 : (Int) ⊕ (Int)) (out : Out) => Sum.elim (fun r_19 => ∃ σ : St, out = .ret σ ∧ σ.env 4 = uI r_19 ∧ σ.mem = mem0) (fun r_19 => ∃ σ : St, out = .exit 0 σ ∧ σ.env 1 = uI r_19 ∧ σ.mem = mem0) r_19
  refine loopP ({ hd := [0, 1, 5], bx := [], ex := [1], rt := [4] }) I_4 X_5 h_20 (by exact rfl) ?_ ?_ ?_
  ·rw [I_4_]
   exact ⟨by simp [zac, zaa, h_1], by simp [zaa, h_1]⟩
  ·intro s_2 σ_6 a_3 hI hp
   rw [I_4_] at hI
   obtain ⟨q_8, q_7⟩ := hI
   try simp [h_1, q_8, q_7]
   rcases zad hp with ⟨h_9, hp⟩ | ⟨h_9, hp⟩
   ·try simp at h_9
    obtain ⟨e_10, h_11, hp⟩ := zab hp
    have b_12 := at_lo h_11
    have b_13 := at_hi h_11
    try simp at b_12 b_13
    have c_14 := seg_at' h_11 0 2 (by decide) (ds := [.sl e_10.vars.length (encL e_10.vars), .sl e_10.next.length (encL e_10.next)]) rfl
    try simp at c_14
    obtain ⟨y_15, h_16, hp⟩ := zab hp
    have c_17 := C9_eq h_16
    simp at c_17
    try simp [h_1, q_8, q_7, h_9, b_12, b_13, c_14, c_17]
    rcases zad hp with ⟨h_18, hp⟩ | ⟨h_18, hp⟩
    ·try simp at h_18
     cases hp
     try simp [h_1, q_8, q_7, h_9, h_18]
     refine zan ?_
     rw [X_5_]
     exact ⟨_, rfl, by simp [zac, zaa, h_1, q_8, q_7, h_9, h_18], by simp [zaa, h_1, q_8, q_7, h_9, h_18]⟩
    ·try simp at h_18
     cases hp
     try simp [h_1, q_8, q_7, h_9, h_18]
     refine zah ?_
     rw [I_4_]
     exact ⟨by simp [zac, zaa, h_1, q_8, q_7, h_9, h_18], by simp [zaa, h_1, q_8, q_7, h_9, h_18]⟩
   ·try simp at h_9
    cases hp
    try simp [h_1, q_8, q_7, h_9]
    refine zak ?_
    rw [X_5_]
    exact ⟨_, rfl, by simp [zac, zaa, h_1, q_8, q_7, h_9], by simp [zaa, h_1, q_8, q_7, h_9]⟩
  ·intro out hX
   rw [X_5_] at hX
   rcases r_19 with r_19 | r_19
   ·simp only [Sum.elim_inl, Sum.elim_inr] at hX hp
    obtain ⟨σ_21, rfl, q_23, q_22⟩ := hX
    cases hp
    simp [Goal, FnEnd, h_1, q_23, q_22]
   ·simp only [Sum.elim_inl, Sum.elim_inr] at hX hp
    obtain ⟨σ_24, rfl, q_26, q_25⟩ := hX
    cases hp
    simp [Goal, FnEnd, h_1, q_26, q_25]
theorem pc24 : PC Tryz.prog 24 C24 := pc_of (g := g24) (zai _ g24_s.2.1 ⟨pc9, trivial⟩) (ent Tryz.func24) fun x y h => w24 h

def C51 : List AV → Option AV := specP (X := (List ByteArray) × Unit) fun x => laws_toStringS x.1
theorem C51_eq {a_} {y} (h : laws_toStringS a_ = some y) : C51 [av .shr a_] = some (Res.res y) := zag (x := (a_, ())) h
def g51 : Cfg := { P := Tryz.prog, take := [(51, 7)], keep := [((51, 3), { hd := [0, 3, 4], bx := [], ex := [3], rt := [2] })], gho := [((51, atEnd), [.frz (.sl 2 0)])], ctx := [] }
@[simp] theorem g51_s : g51.P = Tryz.prog ∧ g51.ctx = [] ∧ g51.take = [(51, 7)] ∧ g51.gho = [((51, atEnd), [.frz (.sl 2 0)])] ∧ g51.ro = [] ∧ g51.away = [] ∧ g51.give = [] ∧ g51.octx = [] := by simp [g51]
theorem w51 {a_} {y} (hp : laws_toStringS a_ = some y) : ∃ m, callo g51 0 51 [av .shr a_] mem0 = some (Res.res y, m) := by
 refine st0 [.tmp 2] Tryz.func51 ?_
 unfold laws_toStringS at hp
 obtain ⟨_, h_1, hp⟩ := zab hp
 have b_2 := roomI_lo h_1
 have b_3 := roomI_ok h_1
 try simp at b_2 b_3
 have r_4 := row_replicate (a_.length : Int).toNat (ByteArray.empty : ByteArray) (by rfl)
 try simp at r_4
 simp [Tryz.f51, b_2, b_3, r_4]
 obtain ⟨r_24, h_25, hp⟩ := zab hp
 obtain ⟨I_7, I_7_⟩ := exV fun (s_5 : Int × (List ByteArray)) (σ : St) => (σ.env 0 = uL .shr a_ ∧ σ.env 3 = .one (.bs (1, 7) s_5.2.length 1) ∧ σ.env 4 = uI s_5.1 ∧ σ.mem (1, 7) = some (rowC s_5.2)) ∧ NoBox [(1, 7)] σ.mem
 obtain ⟨X_8, X_8_⟩ := exV fun (r_24 : (List ByteArray)) (out : Out) => ∃ σ : St, out = .exit 0 σ ∧ (σ.env 3 = .one (.bs (1, 7) r_24.length 1) ∧ σ.mem (1, 7) = some (rowC r_24)) ∧ NoBox [(1, 7)] σ.mem
 refine loopP ({ hd := [0, 3, 4], bx := [], ex := [3], rt := [2] }) I_7 X_8 h_25 (by exact rfl) ?_ ?_ ?_
 ·rw [I_7_]
  exact ⟨by simp [zac, zaa], NoBox.restrict (by intro k hk hb; simp at hk hb; simp [hk, hb])⟩
 ·intro s_5 σ_9 a_6 hI hp
  rw [I_7_] at hI
  obtain ⟨q_11, hn_10⟩ := hI
  try simp [q_11]
  rcases zad hp with ⟨h_12, hp⟩ | ⟨h_12, hp⟩
  ·try simp at h_12
   obtain ⟨e_13, h_14, hp⟩ := zab hp
   have b_15 := at_lo h_14
   have b_16 := at_hi h_14
   try simp at b_15 b_16
   have c_17 := seg_at' h_14 0 1 (by decide) (ds := [.sc (.string e_13)]) rfl
   try simp at c_17
   obtain ⟨e_18, h_19, hp⟩ := zab hp
   have b_20 := at_lo h_19
   have b_21 := at_hi h_19
   try simp at b_20 b_21
   have c_22 := splice_row h_19 0 e_13 [(.s (.string e_13))] (by simp) rfl
   try simp at c_22
   have l_23 := row_room h_19 0 (m := 1) (by decide)
   try simp at l_23
   cases hp
   try simp [q_11, h_12, b_15, b_16, c_17, b_20, b_21, c_22, l_23]
   refine zah ?_
   rw [I_7_]
   exact ⟨by simp [zac, zaa, q_11, h_12, b_15, b_16, c_17, b_20, b_21, c_22, l_23], NoBox.restrict (by intro k hk hb; simp at hk hb; simp [hk, hb, q_11, h_12, b_15, b_16, c_17, b_20, b_21, c_22, l_23, hn_10 k (by simp [hk, hb])])⟩
  ·try simp at h_12
   cases hp
   try simp [q_11, h_12]
   refine zak ?_
   rw [X_8_]
   exact ⟨_, rfl, by simp [zac, zaa, q_11, h_12], NoBox.restrict (by intro k hk hb; simp at hk hb; simp [hk, hb, q_11, h_12, hn_10 k (by simp [hk, hb])])⟩
 ·intro out hX
  rw [X_8_] at hX
  obtain ⟨σ_26, rfl, q_28, hn_27⟩ := hX
  cases hp
  simp [Goal, FnEnd, q_28]
theorem pc51 : PC Tryz.prog 51 C51 := pc_of (g := g51) (zai [] rfl trivial) (ent Tryz.func51) fun x y h => w51 h

def C131 : List AV → Option AV := specP (X := TStmt × Unit) fun x => laws_toStmt x.1
theorem C131_eq {a_} {y} (h : laws_toStmt a_ = some y) : C131 [av .shr a_] = some (Res.res y) := zag (x := (a_, ())) h
def g131 : Cfg := { P := Tryz.prog, take := [], keep := [], gho := [], ctx := [] }
@[simp] theorem g131_s : g131.P = Tryz.prog ∧ g131.ctx = [] ∧ Pl0 g131 := by simp [g131]
theorem w131 {a_} {y} (hp : laws_toStmt a_ = some y) : ∃ m, callo g131 0 131 [av .shr a_] mem0 = some (Res.res y, m) := by
 refine st0 [.cell 2 83] Tryz.func131 ?_
 unfold laws_toStmt at hp
 cases hp
 simp [Tryz.f131, Goal, FnEnd, retR, rsrc, RSrc.val, nodupR, nodup, tupPart]
theorem pc131 : PC Tryz.prog 131 C131 := pc_of (g := g131) (zai [] rfl trivial) (ent Tryz.func131) fun x y h => w131 h

def C89 : List AV → Option AV := specP (X := TEdge × Unit) fun x => laws_toEdge x.1
theorem C89_eq {a_} {y} (h : laws_toEdge a_ = some y) : C89 [av .shr a_] = some (Res.res y) := zag (x := (a_, ())) h
def g89 : Cfg := { P := Tryz.prog, take := [], keep := [], gho := [], ctx := [(131, C131)] }
@[simp] theorem g89_s : g89.P = Tryz.prog ∧ g89.ctx = [(131, C131)] ∧ Pl0 g89 := by simp [g89]
theorem w89 {a_} {y} (hp : laws_toEdge a_ = some y) : ∃ m, callo g89 0 89 [av .shr a_] mem0 = some (Res.res y, m) := by
 refine st0 [.cell 2 85] Tryz.func89 ?_
 unfold laws_toEdge at hp
 obtain ⟨y_1, h_2, hp⟩ := zab hp
 have c_3 := C131_eq h_2
 simp at c_3
 cases hp
 simp [Tryz.f89, Goal, FnEnd, retR, rsrc, RSrc.val, nodupR, nodup, tupPart, c_3]
theorem pc89 : PC Tryz.prog 89 C89 := pc_of (g := g89) (zai _ g89_s.2.1 ⟨pc131, trivial⟩) (ent Tryz.func89) fun x y h => w89 h

def C52 : List AV → Option AV := specP (X := (List TEdge) × Unit) fun x => laws_toEdgeS x.1
theorem C52_eq {a_} {y} (h : laws_toEdgeS a_ = some y) : C52 [av .shr a_] = some (Res.res y) := zag (x := (a_, ())) h
def g52 : Cfg := { P := Tryz.prog, take := [(52, 7)], keep := [((52, 3), { hd := [0, 3, 4], bx := [], ex := [3], rt := [2] })], gho := [((52, atEnd), [.frz (.sl 2 0)])], ctx := [(89, C89)] }
@[simp] theorem g52_s : g52.P = Tryz.prog ∧ g52.ctx = [(89, C89)] ∧ g52.take = [(52, 7)] ∧ g52.gho = [((52, atEnd), [.frz (.sl 2 0)])] ∧ g52.ro = [] ∧ g52.away = [] ∧ g52.give = [] ∧ g52.octx = [] := by simp [g52]
theorem w52 {a_} {y} (hp : laws_toEdgeS a_ = some y) : ∃ m, callo g52 0 52 [av .shr a_] mem0 = some (Res.res y, m) := by
 refine st0 [.tmp 2] Tryz.func52 ?_
 unfold laws_toEdgeS at hp
 obtain ⟨_, h_1, hp⟩ := zab hp
 have b_2 := roomI_lo h_1
 have b_3 := roomI_ok h_1
 try simp at b_2 b_3
 have r_4 := row_replicate (a_.length : Int).toNat ((⟨0, 0, (⟨0, ByteArray.empty, ByteArray.empty⟩ : TStmt)⟩ : TEdge) : TEdge) (by rfl)
 try simp at r_4
 simp [Tryz.f52, b_2, b_3, r_4]
 obtain ⟨r_27, h_28, hp⟩ := zab hp
 obtain ⟨I_7, I_7_⟩ := exV fun (s_5 : Int × (List TEdge)) (σ : St) => (σ.env 0 = uL .shr a_ ∧ σ.env 3 = .one (.bs (1, 7) s_5.2.length 5) ∧ σ.env 4 = uI s_5.1 ∧ σ.mem (1, 7) = some (rowC s_5.2)) ∧ NoBox [(1, 7)] σ.mem
 obtain ⟨X_8, X_8_⟩ := exV fun (r_27 : (List TEdge)) (out : Out) => ∃ σ : St, out = .exit 0 σ ∧ (σ.env 3 = .one (.bs (1, 7) r_27.length 5) ∧ σ.mem (1, 7) = some (rowC r_27)) ∧ NoBox [(1, 7)] σ.mem
 refine loopP ({ hd := [0, 3, 4], bx := [], ex := [3], rt := [2] }) I_7 X_8 h_28 (by exact rfl) ?_ ?_ ?_
 ·rw [I_7_]
  exact ⟨by simp [zac, zaa], NoBox.restrict (by intro k hk hb; simp at hk hb; simp [hk, hb])⟩
 ·intro s_5 σ_9 a_6 hI hp
  rw [I_7_] at hI
  obtain ⟨q_11, hn_10⟩ := hI
  try simp [q_11]
  rcases zad hp with ⟨h_12, hp⟩ | ⟨h_12, hp⟩
  ·try simp at h_12
   obtain ⟨e_13, h_14, hp⟩ := zab hp
   have b_15 := at_lo h_14
   have b_16 := at_hi h_14
   try simp at b_15 b_16
   have c_17 := seg_at' h_14 0 5 (by decide) (ds := [.sc (.int .i64 e_13.from_), .sc (.int .i64 e_13.to_), .sc (.int .i64 e_13.stmt.kind), .sc (.string e_13.stmt.a), .sc (.string e_13.stmt.b)]) rfl
   try simp at c_17
   obtain ⟨y_18, h_19, hp⟩ := zab hp
   have c_20 := C89_eq h_19
   simp at c_20
   obtain ⟨e_21, h_22, hp⟩ := zab hp
   have b_23 := at_lo h_22
   have b_24 := at_hi h_22
   try simp at b_23 b_24
   have c_25 := splice_row h_22 0 y_18 [(.s (.int .i64 y_18.from_)), (.s (.int .i64 y_18.to_)), (.s (.int .i64 y_18.stmt.kind)), (.s (.string y_18.stmt.a)), (.s (.string y_18.stmt.b))] (by simp) rfl
   try simp at c_25
   have l_26 := row_room h_22 0 (m := 5) (by decide)
   try simp at l_26
   cases hp
   try simp [q_11, h_12, b_15, b_16, c_17, c_20, b_23, b_24, c_25, l_26]
   refine zah ?_
   rw [I_7_]
   exact ⟨by simp [zac, zaa, q_11, h_12, b_15, b_16, c_17, c_20, b_23, b_24, c_25, l_26], NoBox.restrict (by intro k hk hb; simp at hk hb; simp [hk, hb, q_11, h_12, b_15, b_16, c_17, c_20, b_23, b_24, c_25, l_26, hn_10 k (by simp [hk, hb])])⟩
  ·try simp at h_12
   cases hp
   try simp [q_11, h_12]
   refine zak ?_
   rw [X_8_]
   exact ⟨_, rfl, by simp [zac, zaa, q_11, h_12], NoBox.restrict (by intro k hk hb; simp at hk hb; simp [hk, hb, q_11, h_12, hn_10 k (by simp [hk, hb])])⟩
 ·intro out hX
  rw [X_8_] at hX
  obtain ⟨σ_29, rfl, q_31, hn_30⟩ := hX
  cases hp
  simp [Goal, FnEnd, q_31]
theorem pc52 : PC Tryz.prog 52 C52 := pc_of (g := g52) (zai _ g52_s.2.1 ⟨pc89, trivial⟩) (ent Tryz.func52) fun x y h => w52 h

def C11 : List AV → Option AV := specP (X := TProgram × Unit) fun x => laws_toProgram x.1
theorem C11_eq {a_} {y} (h : laws_toProgram a_ = some y) : C11 [av .shr a_] = some (Res.res y) := zag (x := (a_, ())) h
def g11 : Cfg := { P := Tryz.prog, take := [(11, 15)], keep := [], gho := [], ctx := [(51, C51), (52, C52)] }
@[simp] theorem g11_s : g11.P = Tryz.prog ∧ g11.ctx = [(51, C51), (52, C52)] ∧ Pl1 g11 ∧ g11.take = [(11, 15)] := by simp [g11]
theorem w11 {a_} {y} (hp : laws_toProgram a_ = some y) : ∃ m, callo g11 0 11 [av .shr a_] mem0 = some (Res.res y, m) := by
 refine st0 [.cell 2 38] Tryz.func11 ?_
 unfold laws_toProgram at hp
 obtain ⟨y_1, h_2, hp⟩ := zab hp
 have c_3 := C51_eq h_2
 simp at c_3
 obtain ⟨y_4, h_5, hp⟩ := zab hp
 have c_6 := C52_eq h_5
 simp at c_6
 cases hp
 simp [Tryz.f11, Goal, FnEnd, retR, rsrc, RSrc.val, nodupR, nodup, tupPart, c_3, c_6]
theorem pc11 : PC Tryz.prog 11 C11 := pc_of (g := g11) (zai _ g11_s.2.1 ⟨pc51, pc52, trivial⟩) (ent Tryz.func11) fun x y h => w11 h

def C13 : List AV → Option AV := specP (X := (List Int) × Unit) fun x => laws_toIntS x.1
theorem C13_eq {a_} {y} (h : laws_toIntS a_ = some y) : C13 [av .shr a_] = some (Res.res y) := zag (x := (a_, ())) h
def g13 : Cfg := { P := Tryz.prog, take := [(13, 7)], keep := [((13, 3), { hd := [0, 3, 4], bx := [], ex := [3], rt := [2] })], gho := [((13, atEnd), [.frz (.sl 2 0)])], ctx := [] }
@[simp] theorem g13_s : g13.P = Tryz.prog ∧ g13.ctx = [] ∧ g13.take = [(13, 7)] ∧ g13.gho = [((13, atEnd), [.frz (.sl 2 0)])] ∧ g13.ro = [] ∧ g13.away = [] ∧ g13.give = [] ∧ g13.octx = [] := by simp [g13]
theorem w13 {a_} {y} (hp : laws_toIntS a_ = some y) : ∃ m, callo g13 0 13 [av .shr a_] mem0 = some (Res.res y, m) := by
 refine st0 [.tmp 2] Tryz.func13 ?_
 unfold laws_toIntS at hp
 obtain ⟨_, h_1, hp⟩ := zab hp
 have b_2 := roomI_lo h_1
 have b_3 := roomI_ok h_1
 try simp at b_2 b_3
 have r_4 := row_replicate (a_.length : Int).toNat (0 : Int) (by rfl)
 try simp at r_4
 simp [Tryz.f13, b_2, b_3, r_4]
 obtain ⟨r_24, h_25, hp⟩ := zab hp
 obtain ⟨I_7, I_7_⟩ := exV fun (s_5 : Int × (List Int)) (σ : St) => (σ.env 0 = uL .shr a_ ∧ σ.env 3 = .one (.bs (1, 7) s_5.2.length 1) ∧ σ.env 4 = uI s_5.1 ∧ σ.mem (1, 7) = some (rowC s_5.2)) ∧ NoBox [(1, 7)] σ.mem
 obtain ⟨X_8, X_8_⟩ := exV fun (r_24 : (List Int)) (out : Out) => ∃ σ : St, out = .exit 0 σ ∧ (σ.env 3 = .one (.bs (1, 7) r_24.length 1) ∧ σ.mem (1, 7) = some (rowC r_24)) ∧ NoBox [(1, 7)] σ.mem
 refine loopP ({ hd := [0, 3, 4], bx := [], ex := [3], rt := [2] }) I_7 X_8 h_25 (by exact rfl) ?_ ?_ ?_
 ·rw [I_7_]
  exact ⟨by simp [zac, zaa], NoBox.restrict (by intro k hk hb; simp at hk hb; simp [hk, hb])⟩
 ·intro s_5 σ_9 a_6 hI hp
  rw [I_7_] at hI
  obtain ⟨q_11, hn_10⟩ := hI
  try simp [q_11]
  rcases zad hp with ⟨h_12, hp⟩ | ⟨h_12, hp⟩
  ·try simp at h_12
   obtain ⟨e_13, h_14, hp⟩ := zab hp
   have b_15 := at_lo h_14
   have b_16 := at_hi h_14
   try simp at b_15 b_16
   have c_17 := seg_at' h_14 0 1 (by decide) (ds := [.sc (.int .i64 e_13)]) rfl
   try simp at c_17
   obtain ⟨e_18, h_19, hp⟩ := zab hp
   have b_20 := at_lo h_19
   have b_21 := at_hi h_19
   try simp at b_20 b_21
   have c_22 := splice_row h_19 0 e_13 [(.s (.int .i64 e_13))] (by simp) rfl
   try simp at c_22
   have l_23 := row_room h_19 0 (m := 1) (by decide)
   try simp at l_23
   cases hp
   try simp [q_11, h_12, b_15, b_16, c_17, b_20, b_21, c_22, l_23]
   refine zah ?_
   rw [I_7_]
   exact ⟨by simp [zac, zaa, q_11, h_12, b_15, b_16, c_17, b_20, b_21, c_22, l_23], NoBox.restrict (by intro k hk hb; simp at hk hb; simp [hk, hb, q_11, h_12, b_15, b_16, c_17, b_20, b_21, c_22, l_23, hn_10 k (by simp [hk, hb])])⟩
  ·try simp at h_12
   cases hp
   try simp [q_11, h_12]
   refine zak ?_
   rw [X_8_]
   exact ⟨_, rfl, by simp [zac, zaa, q_11, h_12], NoBox.restrict (by intro k hk hb; simp at hk hb; simp [hk, hb, q_11, h_12, hn_10 k (by simp [hk, hb])])⟩
 ·intro out hX
  rw [X_8_] at hX
  obtain ⟨σ_26, rfl, q_28, hn_27⟩ := hX
  cases hp
  simp [Goal, FnEnd, q_28]
theorem pc13 : PC Tryz.prog 13 C13 := pc_of (g := g13) (zai [] rfl trivial) (ent Tryz.func13) fun x y h => w13 h

def C12 : List AV → Option AV := specP (X := THeap × Unit) fun x => laws_toHeap x.1
theorem C12_eq {a_} {y} (h : laws_toHeap a_ = some y) : C12 [av .shr a_] = some (Res.res y) := zag (x := (a_, ())) h
def g12 : Cfg := { P := Tryz.prog, take := [(12, 12)], keep := [], gho := [], ctx := [(13, C13)] }
@[simp] theorem g12_s : g12.P = Tryz.prog ∧ g12.ctx = [(13, C13)] ∧ Pl1 g12 ∧ g12.take = [(12, 12)] := by simp [g12]
theorem w12 {a_} {y} (hp : laws_toHeap a_ = some y) : ∃ m, callo g12 0 12 [av .shr a_] mem0 = some (Res.res y, m) := by
 refine st0 [.cell 2 31] Tryz.func12 ?_
 unfold laws_toHeap at hp
 obtain ⟨y_1, h_2, hp⟩ := zab hp
 have c_3 := C13_eq h_2
 simp at c_3
 obtain ⟨y_4, h_5, hp⟩ := zab hp
 have c_6 := C13_eq h_5
 simp at c_6
 cases hp
 simp [Tryz.f12, Goal, FnEnd, retR, rsrc, RSrc.val, nodupR, nodup, tupPart, c_3, c_6]
theorem pc12 : PC Tryz.prog 12 C12 := pc_of (g := g12) (zai _ g12_s.2.1 ⟨pc13, trivial⟩) (ent Tryz.func12) fun x y h => w12 h

def C26 : List AV → Option AV := specP (X := (List THeap) × Unit) fun x => laws_toHeapS x.1
theorem C26_eq {a_} {y} (h : laws_toHeapS a_ = some y) : C26 [av .shr a_] = some (Res.res y) := zag (x := (a_, ())) h
def g26 : Cfg := { P := Tryz.prog, take := [(26, 7)], keep := [((26, 3), { hd := [0, 3, 4], bx := [], ex := [3], rt := [2] })], gho := [((26, atEnd), [.frz (.sl 2 0)])], ctx := [(12, C12)] }
@[simp] theorem g26_s : g26.P = Tryz.prog ∧ g26.ctx = [(12, C12)] ∧ g26.take = [(26, 7)] ∧ g26.gho = [((26, atEnd), [.frz (.sl 2 0)])] ∧ g26.ro = [] ∧ g26.away = [] ∧ g26.give = [] ∧ g26.octx = [] := by simp [g26]
theorem w26 {a_} {y} (hp : laws_toHeapS a_ = some y) : ∃ m, callo g26 0 26 [av .shr a_] mem0 = some (Res.res y, m) := by
 refine st0 [.tmp 2] Tryz.func26 ?_
 unfold laws_toHeapS at hp
 obtain ⟨_, h_1, hp⟩ := zab hp
 have b_2 := roomI_lo h_1
 have b_3 := roomI_ok h_1
 try simp at b_2 b_3
 have r_4 := row_replicate (a_.length : Int).toNat ((⟨[], []⟩ : THeap) : THeap) (by rfl)
 try simp at r_4
 simp [Tryz.f26, b_2, b_3, r_4]
 obtain ⟨r_27, h_28, hp⟩ := zab hp
 obtain ⟨I_7, I_7_⟩ := exV fun (s_5 : Int × (List THeap)) (σ : St) => (σ.env 0 = uL .shr a_ ∧ σ.env 3 = .one (.bs (1, 7) s_5.2.length 2) ∧ σ.env 4 = uI s_5.1 ∧ σ.mem (1, 7) = some (rowC s_5.2)) ∧ NoBox [(1, 7)] σ.mem
 obtain ⟨X_8, X_8_⟩ := exV fun (r_27 : (List THeap)) (out : Out) => ∃ σ : St, out = .exit 0 σ ∧ (σ.env 3 = .one (.bs (1, 7) r_27.length 2) ∧ σ.mem (1, 7) = some (rowC r_27)) ∧ NoBox [(1, 7)] σ.mem
 refine loopP ({ hd := [0, 3, 4], bx := [], ex := [3], rt := [2] }) I_7 X_8 h_28 (by exact rfl) ?_ ?_ ?_
 ·rw [I_7_]
  exact ⟨by simp [zac, zaa], NoBox.restrict (by intro k hk hb; simp at hk hb; simp [hk, hb])⟩
 ·intro s_5 σ_9 a_6 hI hp
  rw [I_7_] at hI
  obtain ⟨q_11, hn_10⟩ := hI
  try simp [q_11]
  rcases zad hp with ⟨h_12, hp⟩ | ⟨h_12, hp⟩
  ·try simp at h_12
   obtain ⟨e_13, h_14, hp⟩ := zab hp
   have b_15 := at_lo h_14
   have b_16 := at_hi h_14
   try simp at b_15 b_16
   have c_17 := seg_at' h_14 0 2 (by decide) (ds := [.sl e_13.vars.length (encL e_13.vars), .sl e_13.next.length (encL e_13.next)]) rfl
   try simp at c_17
   obtain ⟨y_18, h_19, hp⟩ := zab hp
   have c_20 := C12_eq h_19
   simp at c_20
   obtain ⟨e_21, h_22, hp⟩ := zab hp
   have b_23 := at_lo h_22
   have b_24 := at_hi h_22
   try simp at b_23 b_24
   have c_25 := splice_row h_22 0 y_18 [(.l .own y_18.vars.length (encL y_18.vars)), (.l .own y_18.next.length (encL y_18.next))] (by simp) rfl
   try simp at c_25
   have l_26 := row_room h_22 0 (m := 2) (by decide)
   try simp at l_26
   cases hp
   try simp [q_11, h_12, b_15, b_16, c_17, c_20, b_23, b_24, c_25, l_26]
   refine zah ?_
   rw [I_7_]
   exact ⟨by simp [zac, zaa, q_11, h_12, b_15, b_16, c_17, c_20, b_23, b_24, c_25, l_26], NoBox.restrict (by intro k hk hb; simp at hk hb; simp [hk, hb, q_11, h_12, b_15, b_16, c_17, c_20, b_23, b_24, c_25, l_26, hn_10 k (by simp [hk, hb])])⟩
  ·try simp at h_12
   cases hp
   try simp [q_11, h_12]
   refine zak ?_
   rw [X_8_]
   exact ⟨_, rfl, by simp [zac, zaa, q_11, h_12], NoBox.restrict (by intro k hk hb; simp at hk hb; simp [hk, hb, q_11, h_12, hn_10 k (by simp [hk, hb])])⟩
 ·intro out hX
  rw [X_8_] at hX
  obtain ⟨σ_29, rfl, q_31, hn_30⟩ := hX
  cases hp
  simp [Goal, FnEnd, q_31]
theorem pc26 : PC Tryz.prog 26 C26 := pc_of (g := g26) (zai _ g26_s.2.1 ⟨pc12, trivial⟩) (ent Tryz.func26) fun x y h => w26 h

def C49 : List AV → Option AV := specP (X := Int × Int × Int × Unit) fun x => spec_l1In x.1 x.2.1 x.2.2.1
theorem C49_eq {x_ lo hi} {y} (h : spec_l1In x_ lo hi = some y) : C49 [av .shr x_, av .shr lo, av .shr hi] = some (Res.res y) := zag (x := (x_, lo, hi, ())) h
def g49 : Cfg := { P := Tryz.prog, take := [], keep := [], gho := [], ctx := [] }
@[simp] theorem g49_s : g49.P = Tryz.prog ∧ g49.ctx = [] ∧ Pl0 g49 := by simp [g49]
theorem w49 {x_ lo hi} {y} (hp : spec_l1In x_ lo hi = some y) : ∃ m, callo g49 0 49 [av .shr x_, av .shr lo, av .shr hi] mem0 = some (Res.res y, m) := by
 refine st0 [.tmp 6] Tryz.func49 ?_
 unfold spec_l1In at hp
 simp [Tryz.f49]
 rcases zad hp with ⟨h_1, hp⟩ | ⟨h_1, hp⟩
 ·try simp at h_1
  cases hp
  simp [Goal, FnEnd, h_1]
 ·try simp at h_1
  cases hp
  simp [Goal, FnEnd, h_1]
theorem pc49 : PC Tryz.prog 49 C49 := pc_of (g := g49) (zai [] rfl trivial) (ent Tryz.func49) fun x y h => w49 h

def C125 : List AV → Option AV := specP (X := Int × Unit) fun x => spec_NamesOf x.1
theorem C125_eq {kind} {y} (h : spec_NamesOf kind = some y) : C125 [av .shr kind] = some (Res.res y) := zag (x := (kind, ())) h
def g125 : Cfg := { P := Tryz.prog, take := [], keep := [], gho := [], ctx := [] }
@[simp] theorem g125_s : g125.P = Tryz.prog ∧ g125.ctx = [] ∧ Pl0 g125 := by simp [g125]
theorem w125 {kind} {y} (hp : spec_NamesOf kind = some y) : ∃ m, callo g125 0 125 [av .shr kind] mem0 = some (Res.res y, m) := by
 refine st0 [.tmp 2] Tryz.func125 ?_
 unfold spec_NamesOf at hp
 simp [Tryz.f125]
 rcases zad hp with ⟨h_1, hp⟩ | ⟨h_1, hp⟩
 ·try simp at h_1
  cases hp
  simp [Goal, FnEnd, h_1]
 ·try simp at h_1
  try simp [h_1]
  rcases zad hp with ⟨h_2, hp⟩ | ⟨h_2, hp⟩
  ·try simp at h_2
   cases hp
   simp [Goal, FnEnd, h_1, h_2]
  ·try simp at h_2
   try simp [h_1, h_2]
   rcases zad hp with ⟨h_3, hp⟩ | ⟨h_3, hp⟩
   ·try simp at h_3
    cases hp
    simp [Goal, FnEnd, h_1, h_2, h_3]
   ·try simp at h_3
    try simp [h_1, h_2, h_3]
    rcases zad hp with ⟨h_4, hp⟩ | ⟨h_4, hp⟩
    ·try simp at h_4
     cases hp
     simp [Goal, FnEnd, h_1, h_2, h_3, h_4]
    ·try simp at h_4
     try simp [h_1, h_2, h_3, h_4]
     rcases zad hp with ⟨h_5, hp⟩ | ⟨h_5, hp⟩
     ·try simp at h_5
      cases hp
      simp [Goal, FnEnd, h_1, h_2, h_3, h_4, h_5]
     ·try simp at h_5
      try simp [h_1, h_2, h_3, h_4, h_5]
      rcases zad hp with ⟨h_6, hp⟩ | ⟨h_6, hp⟩
      ·try simp at h_6
       cases hp
       simp [Goal, FnEnd, h_1, h_2, h_3, h_4, h_5, h_6]
      ·try simp at h_6
       try simp [h_1, h_2, h_3, h_4, h_5, h_6]
       rcases zad hp with ⟨h_7, hp⟩ | ⟨h_7, hp⟩
       ·try simp at h_7
        cases hp
        simp [Goal, FnEnd, h_1, h_2, h_3, h_4, h_5, h_6, h_7]
       ·try simp at h_7
        try simp [h_1, h_2, h_3, h_4, h_5, h_6, h_7]
        rcases zad hp with ⟨h_8, hp⟩ | ⟨h_8, hp⟩
        ·try simp at h_8
         cases hp
         simp [Goal, FnEnd, h_1, h_2, h_3, h_4, h_5, h_6, h_7, h_8]
        ·try simp at h_8
         try simp [h_1, h_2, h_3, h_4, h_5, h_6, h_7, h_8]
         rcases zad hp with ⟨h_9, hp⟩ | ⟨h_9, hp⟩
         ·try simp at h_9
          cases hp
          simp [Goal, FnEnd, h_1, h_2, h_3, h_4, h_5, h_6, h_7, h_8, h_9]
         ·try simp at h_9
          try simp [h_1, h_2, h_3, h_4, h_5, h_6, h_7, h_8, h_9]
          rcases zad hp with ⟨h_10, hp⟩ | ⟨h_10, hp⟩
          ·try simp at h_10
           cases hp
           simp [Goal, FnEnd, h_1, h_2, h_3, h_4, h_5, h_6, h_7, h_8, h_9, h_10]
          ·try simp at h_10
           try simp [h_1, h_2, h_3, h_4, h_5, h_6, h_7, h_8, h_9, h_10]
           rcases zad hp with ⟨h_11, hp⟩ | ⟨h_11, hp⟩
           ·try simp at h_11
            cases hp
            simp [Goal, FnEnd, h_1, h_2, h_3, h_4, h_5, h_6, h_7, h_8, h_9, h_10, h_11]
           ·try simp at h_11
            try simp [h_1, h_2, h_3, h_4, h_5, h_6, h_7, h_8, h_9, h_10, h_11]
            rcases zad hp with ⟨h_12, hp⟩ | ⟨h_12, hp⟩
            ·try simp at h_12
             cases hp
             simp [Goal, FnEnd, h_1, h_2, h_3, h_4, h_5, h_6, h_7, h_8, h_9, h_10, h_11, h_12]
            ·try simp at h_12
             cases hp
             simp [Goal, FnEnd, h_1, h_2, h_3, h_4, h_5, h_6, h_7, h_8, h_9, h_10, h_11, h_12]
theorem pc125 : PC Tryz.prog 125 C125 := pc_of (g := g125) (zai [] rfl trivial) (ent Tryz.func125) fun x y h => w125 h

def C126 : List AV → Option AV := specP (X := ByteArray × Unit) fun x => spec_IsName x.1
theorem C126_eq {s} {y} (h : spec_IsName s = some y) : C126 [av .shr s] = some (Res.res y) := zag (x := (s, ())) h
def g126 : Cfg := { P := Tryz.prog, take := [], keep := [((126, 2), { hd := [0, 3], bx := [], ex := [0], rt := [2] })], gho := [], ctx := [(49, C49)] }
@[simp] theorem g126_s : g126.P = Tryz.prog ∧ g126.ctx = [(49, C49)] ∧ Pl0 g126 := by simp [g126]
theorem w126 {s} {y} (hp : spec_IsName s = some y) : ∃ m, callo g126 0 126 [av .shr s] mem0 = some (Res.res y, m) := by
 refine st0 [.tmp 2] Tryz.func126 ?_
 unfold spec_IsName at hp
 simp [Tryz.f126]
 obtain ⟨r_15, h_16, hp⟩ := zab hp
 obtain ⟨I_3, I_3_⟩ := exV fun (s_1 : Int) (σ : St) => (σ.env 0 = .one (.s (.string s)) ∧ σ.env 3 = uI s_1) ∧ σ.mem = mem0
 obtain ⟨X_4, X_4_⟩ := exV fun (r_15 : (Unit) ⊕ (Unit)) (out : Out) => Sum.elim (fun r_15 => ∃ σ : St, out = .ret σ ∧ σ.env 2 = uB false ∧ σ.mem = mem0) (fun r_15 => ∃ σ : St, out = .exit 0 σ ∧ σ.env 0 = .one (.s (.string s)) ∧ σ.mem = mem0) r_15
 refine loopP ({ hd := [0, 3], bx := [], ex := [0], rt := [2] }) I_3 X_4 h_16 (by exact rfl) ?_ ?_ ?_
 ·rw [I_3_]
  exact ⟨by simp [zac, zaa], by simp [zaa]⟩
 ·intro s_1 σ_5 a_2 hI hp
  rw [I_3_] at hI
  obtain ⟨q_7, q_6⟩ := hI
  try simp [q_7, q_6]
  rcases zad hp with ⟨h_8, hp⟩ | ⟨h_8, hp⟩
  ·try simp at h_8
   obtain ⟨e_9, h_10, hp⟩ := zab hp
   have c_11 := idx_str Tryz.underlying9 h_10
   try simp [q_7, q_6, h_8, c_11]
   rcases zad hp with ⟨h_12, hp⟩ | ⟨h_12, hp⟩
   ·try simp at h_12
    cases hp
    try simp [q_7, q_6, h_8, h_12]
    refine zan ?_
    rw [X_4_]
    exact ⟨_, rfl, by simp [zac, zaa, q_7, q_6, h_8, h_12], by simp [zaa, q_7, q_6, h_8, h_12]⟩
   ·try simp at h_12
    obtain ⟨_, h_13, hp⟩ := zab hp
    cases Option.some.inj (h_10.symm.trans h_13)
    try simp [q_7, q_6, h_8, h_12, c_11]
    rcases zad hp with ⟨h_14, hp⟩ | ⟨h_14, hp⟩
    ·try simp at h_14
     cases hp
     try simp [q_7, q_6, h_8, h_12, h_14]
     refine zan ?_
     rw [X_4_]
     exact ⟨_, rfl, by simp [zac, zaa, q_7, q_6, h_8, h_12, h_14], by simp [zaa, q_7, q_6, h_8, h_12, h_14]⟩
    ·try simp at h_14
     cases hp
     try simp [q_7, q_6, h_8, h_12, h_14]
     refine zah ?_
     rw [I_3_]
     exact ⟨by simp [zac, zaa, q_7, q_6, h_8, h_12, h_14], by simp [zaa, q_7, q_6, h_8, h_12, h_14]⟩
  ·try simp at h_8
   cases hp
   try simp [q_7, q_6, h_8]
   refine zak ?_
   rw [X_4_]
   exact ⟨_, rfl, by simp [zac, zaa, q_7, q_6, h_8], by simp [zaa, q_7, q_6, h_8]⟩
 ·intro out hX
  rw [X_4_] at hX
  rcases r_15 with r_15 | r_15
  ·simp only [Sum.elim_inl, Sum.elim_inr] at hX hp
   obtain ⟨σ_17, rfl, q_19, q_18⟩ := hX
   cases hp
   simp [Goal, FnEnd, q_19, q_18]
  ·simp only [Sum.elim_inl, Sum.elim_inr] at hX hp
   obtain ⟨σ_20, rfl, q_22, q_21⟩ := hX
   obtain ⟨y_23, h_24, hp⟩ := zab hp
   have c_25 := C49_eq h_24
   simp at c_25
   cases hp
   simp [Goal, FnEnd, q_22, q_21, c_25]
theorem pc126 : PC Tryz.prog 126 C126 := pc_of (g := g126) (zai _ g126_s.2.1 ⟨pc49, trivial⟩) (ent Tryz.func126) fun x y h => w126 h

def C82 : List AV → Option AV := specP (X := (List ByteArray) × ByteArray × Unit) fun x => spec_IndexOf x.1 x.2.1
theorem C82_eq {list s} {y} (h : spec_IndexOf list s = some y) : C82 [av .shr list, av .shr s] = some (Res.res y) := zag (x := (list, s, ())) h
def g82 : Cfg := { P := Tryz.prog, take := [], keep := [((82, 2), { hd := [0, 1, 5], bx := [], ex := [], rt := [4] })], gho := [], ctx := [] }
@[simp] theorem g82_s : g82.P = Tryz.prog ∧ g82.ctx = [] ∧ Pl0 g82 := by simp [g82]
theorem w82 {list s} {y} (hp : spec_IndexOf list s = some y) : ∃ m, callo g82 0 82 [av .shr list, av .shr s] mem0 = some (Res.res y, m) := by
 refine st0 [.tmp 4] Tryz.func82 ?_
 unfold spec_IndexOf at hp
 simp [Tryz.f82]
 obtain ⟨r_15, h_16, hp⟩ := zab hp
 obtain ⟨I_3, I_3_⟩ := exV fun (s_1 : Int) (σ : St) => (σ.env 0 = uL .shr list ∧ σ.env 1 = .one (.s (.string s)) ∧ σ.env 5 = uI s_1) ∧ σ.mem = mem0
 obtain ⟨X_4, X_4_⟩ := exV fun (r_15 : (Int) ⊕ (Unit)) (out : Out) => Sum.elim (fun r_15 => ∃ σ : St, out = .ret σ ∧ σ.env 4 = uI r_15 ∧ σ.mem = mem0) (fun r_15 => ∃ σ : St, out = .exit 0 σ ∧ σ.mem = mem0) r_15
 refine loopP ({ hd := [0, 1, 5], bx := [], ex := [], rt := [4] }) I_3 X_4 h_16 (by exact rfl) ?_ ?_ ?_
 ·rw [I_3_]
  exact ⟨by simp [zac, zaa], by simp [zaa]⟩
 ·intro s_1 σ_5 a_2 hI hp
  rw [I_3_] at hI
  obtain ⟨q_7, q_6⟩ := hI
  try simp [q_7, q_6]
  rcases zad hp with ⟨h_8, hp⟩ | ⟨h_8, hp⟩
  ·try simp at h_8
   obtain ⟨e_9, h_10, hp⟩ := zab hp
   have b_11 := at_lo h_10
   have b_12 := at_hi h_10
   try simp at b_11 b_12
   have c_13 := seg_at' h_10 0 1 (by decide) (ds := [.sc (.string e_9)]) rfl
   try simp at c_13
   try simp [q_7, q_6, h_8, b_11, b_12, c_13]
   rcases zad hp with ⟨h_14, hp⟩ | ⟨h_14, hp⟩
   ·try simp at h_14
    cases hp
    try simp [q_7, q_6, h_8, h_14]
    refine zan ?_
    rw [X_4_]
    exact ⟨_, rfl, by simp [zac, zaa, q_7, q_6, h_8, h_14], by simp [zaa, q_7, q_6, h_8, h_14]⟩
   ·try simp at h_14
    cases hp
    try simp [q_7, q_6, h_8, h_14]
    refine zah ?_
    rw [I_3_]
    exact ⟨by simp [zac, zaa, q_7, q_6, h_8, h_14], by simp [zaa, q_7, q_6, h_8, h_14]⟩
  ·try simp at h_8
   cases hp
   try simp [q_7, q_6, h_8]
   refine zak ?_
   rw [X_4_]
   exact ⟨_, rfl, by simp [zaa, q_7, q_6, h_8]⟩
 ·intro out hX
  rw [X_4_] at hX
  rcases r_15 with r_15 | r_15
  ·simp only [Sum.elim_inl, Sum.elim_inr] at hX hp
   obtain ⟨σ_17, rfl, q_19, q_18⟩ := hX
   cases hp
   simp [Goal, FnEnd, q_19, q_18]
  ·simp only [Sum.elim_inl, Sum.elim_inr] at hX hp
   obtain ⟨σ_20, rfl, q_21⟩ := hX
   cases hp
   simp [Goal, FnEnd, q_21]
theorem pc82 : PC Tryz.prog 82 C82 := pc_of (g := g82) (zai [] rfl trivial) (ent Tryz.func82) fun x y h => w82 h

def C77 : List AV → Option AV := specP (X := (List ByteArray) × Unit) fun x => spec_AreVars x.1
theorem C77_eq {list} {y} (h : spec_AreVars list = some y) : C77 [av .shr list] = some (Res.res y) := zag (x := (list, ())) h
def g77 : Cfg := { P := Tryz.prog, take := [], keep := [((77, 2), { hd := [0, 3], bx := [], ex := [0], rt := [2] })], gho := [], ctx := [(49, C49), (82, C82), (126, C126)] }
@[simp] theorem g77_s : g77.P = Tryz.prog ∧ g77.ctx = [(49, C49), (82, C82), (126, C126)] ∧ Pl0 g77 := by simp [g77]
theorem w77 {list} {y} (hp : spec_AreVars list = some y) : ∃ m, callo g77 0 77 [av .shr list] mem0 = some (Res.res y, m) := by
 refine st0 [.tmp 2] Tryz.func77 ?_
 unfold spec_AreVars at hp
 simp [Tryz.f77]
 obtain ⟨r_27, h_28, hp⟩ := zab hp
 obtain ⟨I_3, I_3_⟩ := exV fun (s_1 : Int) (σ : St) => (σ.env 0 = uL .shr list ∧ σ.env 3 = uI s_1) ∧ σ.mem = mem0
 obtain ⟨X_4, X_4_⟩ := exV fun (r_27 : (Unit) ⊕ (Unit)) (out : Out) => Sum.elim (fun r_27 => ∃ σ : St, out = .ret σ ∧ σ.env 2 = uB false ∧ σ.mem = mem0) (fun r_27 => ∃ σ : St, out = .exit 0 σ ∧ σ.env 0 = uL .shr list ∧ σ.mem = mem0) r_27
 refine loopP ({ hd := [0, 3], bx := [], ex := [0], rt := [2] }) I_3 X_4 h_28 (by exact rfl) ?_ ?_ ?_
 ·rw [I_3_]
  exact ⟨by simp [zac, zaa], by simp [zaa]⟩
 ·intro s_1 σ_5 a_2 hI hp
  rw [I_3_] at hI
  obtain ⟨q_7, q_6⟩ := hI
  try simp [q_7, q_6]
  rcases zad hp with ⟨h_8, hp⟩ | ⟨h_8, hp⟩
  ·try simp at h_8
   obtain ⟨e_9, h_10, hp⟩ := zab hp
   have b_11 := at_lo h_10
   have b_12 := at_hi h_10
   try simp at b_11 b_12
   have c_13 := seg_at' h_10 0 1 (by decide) (ds := [.sc (.string e_9)]) rfl
   try simp at c_13
   obtain ⟨y_14, h_15, hp⟩ := zab hp
   have c_16 := C126_eq h_15
   simp at c_16
   try simp [q_7, q_6, h_8, b_11, b_12, c_13, c_16]
   rcases zad hp with ⟨h_17, hp⟩ | ⟨h_17, hp⟩
   ·try simp at h_17
    obtain ⟨e_18, h_19, hp⟩ := zab hp
    cases Option.some.inj (h_10.symm.trans h_19)
    have b_20 := at_lo h_10
    have b_21 := at_hi h_10
    try simp at b_20 b_21
    have c_22 := seg_at' h_10 0 1 (by decide) (ds := [.sc (.string e_9)]) rfl
    try simp at c_22
    obtain ⟨y_23, h_24, hp⟩ := zab hp
    have c_25 := C82_eq h_24
    simp at c_25
    try simp [q_7, q_6, h_8, h_17, b_20, b_21, c_22, c_25]
    rcases zad hp with ⟨h_26, hp⟩ | ⟨h_26, hp⟩
    ·try simp at h_26
     cases hp
     try simp [q_7, q_6, h_8, h_17, h_26]
     refine zan ?_
     rw [X_4_]
     exact ⟨_, rfl, by simp [zac, zaa, q_7, q_6, h_8, h_17, h_26], by simp [zaa, q_7, q_6, h_8, h_17, h_26]⟩
    ·try simp at h_26
     cases hp
     try simp [q_7, q_6, h_8, h_17, h_26]
     refine zah ?_
     rw [I_3_]
     exact ⟨by simp [zac, zaa, q_7, q_6, h_8, h_17, h_26], by simp [zaa, q_7, q_6, h_8, h_17, h_26]⟩
   ·try simp at h_17
    cases hp
    try simp [q_7, q_6, h_8, h_17]
    refine zan ?_
    rw [X_4_]
    exact ⟨_, rfl, by simp [zac, zaa, q_7, q_6, h_8, h_17], by simp [zaa, q_7, q_6, h_8, h_17]⟩
  ·try simp at h_8
   cases hp
   try simp [q_7, q_6, h_8]
   refine zak ?_
   rw [X_4_]
   exact ⟨_, rfl, by simp [zac, zaa, q_7, q_6, h_8], by simp [zaa, q_7, q_6, h_8]⟩
 ·intro out hX
  rw [X_4_] at hX
  rcases r_27 with r_27 | r_27
  ·simp only [Sum.elim_inl, Sum.elim_inr] at hX hp
   obtain ⟨σ_29, rfl, q_31, q_30⟩ := hX
   cases hp
   simp [Goal, FnEnd, q_31, q_30]
  ·simp only [Sum.elim_inl, Sum.elim_inr] at hX hp
   obtain ⟨σ_32, rfl, q_34, q_33⟩ := hX
   obtain ⟨y_35, h_36, hp⟩ := zab hp
   have c_37 := C49_eq h_36
   simp at c_37
   cases hp
   simp [Goal, FnEnd, q_34, q_33, c_37]
theorem pc77 : PC Tryz.prog 77 C77 := pc_of (g := g77) (zai _ g77_s.2.1 ⟨pc49, pc82, pc126, trivial⟩) (ent Tryz.func77) fun x y h => w77 h

def C76 : List AV → Option AV := specP (X := (List ByteArray) × TStmt × Unit) fun x => spec_IsStmt x.1 x.2.1
theorem C76_eq {vars s} {y} (h : spec_IsStmt vars s = some y) : C76 [av .shr vars, av .shr s] = some (Res.res y) := zag (x := (vars, s, ())) h
def g76 : Cfg := { P := Tryz.prog, take := [], keep := [], gho := [], ctx := [(77, C77), (82, C82), (125, C125)] }
@[simp] theorem g76_s : g76.P = Tryz.prog ∧ g76.ctx = [(77, C77), (82, C82), (125, C125)] ∧ Pl0 g76 := by simp [g76]
theorem w76 {vars s} {y} (hp : spec_IsStmt vars s = some y) : ∃ m, callo g76 0 76 [av .shr vars, av .shr s] mem0 = some (Res.res y, m) := by
 refine st0 [.tmp 4] Tryz.func76 ?_
 unfold spec_IsStmt at hp
 obtain ⟨y_1, h_2, hp⟩ := zab hp
 have c_3 := C125_eq h_2
 simp at c_3
 obtain ⟨y_4, h_5, hp⟩ := zab hp
 have c_6 := C77_eq h_5
 simp at c_6
 simp [Tryz.f76, c_3, c_6]
 rcases zad hp with ⟨h_7, hp⟩ | ⟨h_7, hp⟩
 ·try simp at h_7
  try simp [h_7]
  rcases zad hp with ⟨h_8, hp⟩ | ⟨h_8, hp⟩
  ·try simp at h_8
   cases hp
   simp [Goal, FnEnd, h_7, h_8]
  ·try simp at h_8
   try simp [h_7, h_8]
   rcases zad hp with ⟨h_9, hp⟩ | ⟨h_9, hp⟩
   ·try simp at h_9
    try simp [h_7, h_8, h_9]
    rcases zad hp with ⟨h_10, hp⟩ | ⟨h_10, hp⟩
    ·try simp at h_10
     cases hp
     simp [Goal, FnEnd, h_7, h_8, h_9, h_10]
    ·try simp at h_10
     try simp [h_7, h_8, h_9, h_10]
     rcases zad hp with ⟨h_11, hp⟩ | ⟨h_11, hp⟩
     ·try simp at h_11
      try simp [h_7, h_8, h_9, h_10, h_11]
      rcases zad hp with ⟨h_12, hp⟩ | ⟨h_12, hp⟩
      ·try simp at h_12
       cases hp
       simp [Goal, FnEnd, h_7, h_8, h_9, h_10, h_11, h_12]
      ·try simp at h_12
       cases hp
       simp [Goal, FnEnd, h_7, h_8, h_9, h_10, h_11, h_12]
     ·try simp at h_11
      obtain ⟨y_13, h_14, hp⟩ := zab hp
      have c_15 := C82_eq h_14
      simp at c_15
      cases hp
      simp [Goal, FnEnd, h_7, h_8, h_9, h_10, h_11, c_15]
   ·try simp at h_9
    try simp [h_7, h_8, h_9]
    rcases zad hp with ⟨h_16, hp⟩ | ⟨h_16, hp⟩
    ·try simp at h_16
     try simp [h_7, h_8, h_9, h_16]
     rcases zad hp with ⟨h_17, hp⟩ | ⟨h_17, hp⟩
     ·try simp at h_17
      cases hp
      simp [Goal, FnEnd, h_7, h_8, h_9, h_16, h_17]
     ·try simp at h_17
      obtain ⟨y_18, h_19, hp⟩ := zab hp
      have c_20 := C82_eq h_19
      simp at c_20
      try simp [h_7, h_8, h_9, h_16, h_17, c_20]
      rcases zad hp with ⟨h_21, hp⟩ | ⟨h_21, hp⟩
      ·try simp at h_21
       cases hp
       simp [Goal, FnEnd, h_7, h_8, h_9, h_16, h_17, h_21]
      ·try simp at h_21
       cases hp
       simp [Goal, FnEnd, h_7, h_8, h_9, h_16, h_17, h_21]
    ·try simp at h_16
     obtain ⟨y_22, h_23, hp⟩ := zab hp
     have c_24 := C82_eq h_23
     simp at c_24
     try simp [h_7, h_8, h_9, h_16, c_24]
     rcases zad hp with ⟨h_25, hp⟩ | ⟨h_25, hp⟩
     ·try simp at h_25
      obtain ⟨y_26, h_27, hp⟩ := zab hp
      have c_28 := C82_eq h_27
      simp at c_28
      cases hp
      simp [Goal, FnEnd, h_7, h_8, h_9, h_16, h_25, c_28]
     ·try simp at h_25
      cases hp
      simp [Goal, FnEnd, h_7, h_8, h_9, h_16, h_25]
 ·try simp at h_7
  cases hp
  simp [Goal, FnEnd, h_7]
theorem pc76 : PC Tryz.prog 76 C76 := pc_of (g := g76) (zai _ g76_s.2.1 ⟨pc77, pc82, pc125, trivial⟩) (ent Tryz.func76) fun x y h => w76 h

def C46 : List AV → Option AV := specP (X := TProgram × Unit) fun x => spec_IsProgram x.1
theorem C46_eq {p_} {y} (h : spec_IsProgram p_ = some y) : C46 [av .shr p_] = some (Res.res y) := zag (x := (p_, ())) h
def g46 : Cfg := { P := Tryz.prog, take := [], keep := [((46, 2), { hd := [1, 3], bx := [4], ex := [1], rt := [2] })], gho := [], ctx := [(49, C49), (76, C76), (77, C77)] }
@[simp] theorem g46_s : g46.P = Tryz.prog ∧ g46.ctx = [(49, C49), (76, C76), (77, C77)] ∧ Pl0 g46 := by simp [g46]
theorem w46 {p_} {y} (hp : spec_IsProgram p_ = some y) : ∃ m, callo g46 0 46 [av .shr p_] mem0 = some (Res.res y, m) := by
 refine st0 [.tmp 2] Tryz.func46 ?_
 unfold spec_IsProgram at hp
 simp [Tryz.f46]
 obtain ⟨r_27, h_28, hp⟩ := zab hp
 obtain ⟨I_3, I_3_⟩ := exV fun (s_1 : Int) (σ : St) => (σ.env 1 = uP (1, 1) ∧ σ.env 3 = uI s_1 ∧ σ.mem (1, 1) = some [(.l .shr p_.vars.length (encL p_.vars)), (.s (.int .i64 p_.points)), (.l .shr p_.edges.length (encL p_.edges))]) ∧ NoBox [(1, 1)] σ.mem
 obtain ⟨X_4, X_4_⟩ := exV fun (r_27 : (Unit) ⊕ (Unit)) (out : Out) => Sum.elim (fun r_27 => ∃ σ : St, out = .ret σ ∧ (σ.env 2 = uB false ∧ σ.mem (1, 1) = some [(.l .shr p_.vars.length (encL p_.vars)), (.s (.int .i64 p_.points)), (.l .shr p_.edges.length (encL p_.edges))]) ∧ NoBox [(1, 1)] σ.mem) (fun r_27 => ∃ σ : St, out = .exit 0 σ ∧ (σ.env 1 = uP (1, 1) ∧ σ.mem (1, 1) = some [(.l .shr p_.vars.length (encL p_.vars)), (.s (.int .i64 p_.points)), (.l .shr p_.edges.length (encL p_.edges))]) ∧ NoBox [(1, 1)] σ.mem) r_27
 refine loopP ({ hd := [1, 3], bx := [4], ex := [1], rt := [2] }) I_3 X_4 h_28 (by exact rfl) ?_ ?_ ?_
 ·rw [I_3_]
  exact ⟨by simp [zac, zaa], NoBox.restrict (by intro k hk hb; simp at hk hb; simp [hk, hb])⟩
 ·intro s_1 σ_5 a_2 hI hp
  rw [I_3_] at hI
  obtain ⟨q_7, hn_6⟩ := hI
  try simp [q_7]
  rcases zad hp with ⟨h_8, hp⟩ | ⟨h_8, hp⟩
  ·try simp at h_8
   obtain ⟨e_9, h_10, hp⟩ := zab hp
   have b_11 := at_lo h_10
   have b_12 := at_hi h_10
   try simp at b_11 b_12
   have c_13 := seg_at' h_10 0 5 (by decide) (ds := [.sc (.int .i64 e_9.from_), .sc (.int .i64 e_9.to_), .sc (.int .i64 e_9.stmt.kind), .sc (.string e_9.stmt.a), .sc (.string e_9.stmt.b)]) rfl
   try simp at c_13
   have n_14 := hn_6 (1, 4) (by simp)
   obtain ⟨y_15, h_16, hp⟩ := zab hp
   have c_17 := C49_eq h_16
   simp at c_17
   try simp [q_7, h_8, b_11, b_12, c_13, n_14, c_17]
   rcases zad hp with ⟨h_18, hp⟩ | ⟨h_18, hp⟩
   ·try simp at h_18
    obtain ⟨y_19, h_20, hp⟩ := zab hp
    have c_21 := C49_eq h_20
    simp at c_21
    try simp [q_7, h_8, h_18, c_21]
    rcases zad hp with ⟨h_22, hp⟩ | ⟨h_22, hp⟩
    ·try simp at h_22
     obtain ⟨y_23, h_24, hp⟩ := zab hp
     have c_25 := C76_eq h_24
     simp at c_25
     try simp [q_7, h_8, h_18, h_22, c_25]
     rcases zad hp with ⟨h_26, hp⟩ | ⟨h_26, hp⟩
     ·try simp at h_26
      cases hp
      try simp [q_7, h_8, h_18, h_22, h_26]
      refine zah ?_
      rw [I_3_]
      exact ⟨by simp [zac, zaa, q_7, h_8, h_18, h_22, h_26], NoBox.restrict (by intro k hk hb; simp at hk hb; simp [hk, hb, q_7, h_8, h_18, h_22, h_26, hn_6 k (by simp [hk, hb])])⟩
     ·try simp at h_26
      cases hp
      try simp [q_7, h_8, h_18, h_22, h_26]
      refine zan ?_
      rw [X_4_]
      exact ⟨_, rfl, by simp [zac, zaa, q_7, h_8, h_18, h_22, h_26], NoBox.restrict (by intro k hk hb; simp at hk hb; simp [hk, hb, q_7, h_8, h_18, h_22, h_26, hn_6 k (by simp [hk, hb])])⟩
    ·try simp at h_22
     cases hp
     try simp [q_7, h_8, h_18, h_22]
     refine zan ?_
     rw [X_4_]
     exact ⟨_, rfl, by simp [zac, zaa, q_7, h_8, h_18, h_22], NoBox.restrict (by intro k hk hb; simp at hk hb; simp [hk, hb, q_7, h_8, h_18, h_22, hn_6 k (by simp [hk, hb])])⟩
   ·try simp at h_18
    cases hp
    try simp [q_7, h_8, h_18]
    refine zan ?_
    rw [X_4_]
    exact ⟨_, rfl, by simp [zac, zaa, q_7, h_8, h_18], NoBox.restrict (by intro k hk hb; simp at hk hb; simp [hk, hb, q_7, h_8, h_18, hn_6 k (by simp [hk, hb])])⟩
  ·try simp at h_8
   cases hp
   try simp [q_7, h_8]
   refine zak ?_
   rw [X_4_]
   exact ⟨_, rfl, by simp [zac, zaa, q_7, h_8], NoBox.restrict (by intro k hk hb; simp at hk hb; simp [hk, hb, q_7, h_8, hn_6 k (by simp [hk, hb])])⟩
 ·intro out hX
  rw [X_4_] at hX
  rcases r_27 with r_27 | r_27
  ·simp only [Sum.elim_inl, Sum.elim_inr] at hX hp
   obtain ⟨σ_29, rfl, q_31, hn_30⟩ := hX
   cases hp
   simp [Goal, FnEnd, q_31]
  ·simp only [Sum.elim_inl, Sum.elim_inr] at hX hp
   obtain ⟨σ_32, rfl, q_34, hn_33⟩ := hX
   obtain ⟨y_35, h_36, hp⟩ := zab hp
   have c_37 := C77_eq h_36
   simp at c_37
   try simp [q_34, c_37]
   rcases zad hp with ⟨h_38, hp⟩ | ⟨h_38, hp⟩
   ·try simp at h_38
    obtain ⟨y_39, h_40, hp⟩ := zab hp
    have c_41 := C49_eq h_40
    simp at c_41
    try simp [q_34, h_38, c_41]
    rcases zad hp with ⟨h_42, hp⟩ | ⟨h_42, hp⟩
    ·try simp at h_42
     cases hp
     simp [Goal, FnEnd, q_34, h_38, h_42]
    ·try simp at h_42
     cases hp
     simp [Goal, FnEnd, q_34, h_38, h_42]
   ·try simp at h_38
    cases hp
    simp [Goal, FnEnd, q_34, h_38]
theorem pc46 : PC Tryz.prog 46 C46 := pc_of (g := g46) (zai _ g46_s.2.1 ⟨pc49, pc76, pc77, trivial⟩) (ent Tryz.func46) fun x y h => w46 h

def C78 : List AV → Option AV := specP (X := THeap × Unit) fun x => spec_l7Cells x.1
theorem C78_eq {h_} {y} (h : spec_l7Cells h_ = some y) : C78 [av .shr h_] = some (Res.res y) := zag (x := (h_, ())) h
def g78 : Cfg := { P := Tryz.prog, take := [], keep := [((78, 2), { hd := [1, 3], bx := [], ex := [1], rt := [2] }), ((78, 7), { hd := [1, 4], bx := [], ex := [], rt := [2] })], gho := [], ctx := [(49, C49)] }
@[simp] theorem g78_s : g78.P = Tryz.prog ∧ g78.ctx = [(49, C49)] ∧ Pl0 g78 := by simp [g78]
theorem w78 {h_} {y} (hp : spec_l7Cells h_ = some y) : ∃ m, callo g78 0 78 [av .shr h_] mem0 = some (Res.res y, m) := by
 refine st0 [.tmp 2] Tryz.func78 ?_
 unfold spec_l7Cells at hp
 simp [Tryz.f78]
 obtain ⟨r_18, h_19, hp⟩ := zab hp
 obtain ⟨I_3, I_3_⟩ := exV fun (s_1 : Int) (σ : St) => (σ.env 1 = uP (1, 1) ∧ σ.env 3 = uI s_1 ∧ σ.mem (1, 1) = some [(.l .shr h_.vars.length (encL h_.vars)), (.l .shr h_.next.length (encL h_.next))]) ∧ NoBox [(1, 1)] σ.mem
 obtain ⟨X_4, X_4_⟩ := exV fun (r_18 : (Unit) ⊕ (Unit)) (out : Out) => Sum.elim (fun r_18 => ∃ σ : St, out = .ret σ ∧ (σ.env 2 = uB false ∧ σ.mem (1, 1) = some [(.l .shr h_.vars.length (encL h_.vars)), (.l .shr h_.next.length (encL h_.next))]) ∧ NoBox [(1, 1)] σ.mem) (fun r_18 => ∃ σ : St, out = .exit 0 σ ∧ (σ.env 1 = uP (1, 1) ∧ σ.mem (1, 1) = some [(.l .shr h_.vars.length (encL h_.vars)), (.l .shr h_.next.length (encL h_.next))]) ∧ NoBox [(1, 1)] σ.mem) r_18
 refine loopP ({ hd := [1, 3], bx := [], ex := [1], rt := [2] }) I_3 X_4 h_19 (by exact rfl) ?_ ?_ ?_
 ·rw [I_3_]
  exact ⟨by simp [zac, zaa], NoBox.restrict (by intro k hk hb; simp at hk hb; simp [hk, hb])⟩
 ·intro s_1 σ_5 a_2 hI hp
  rw [I_3_] at hI
  obtain ⟨q_7, hn_6⟩ := hI
  try simp [q_7]
  rcases zad hp with ⟨h_8, hp⟩ | ⟨h_8, hp⟩
  ·try simp at h_8
   obtain ⟨e_9, h_10, hp⟩ := zab hp
   have b_11 := at_lo h_10
   have b_12 := at_hi h_10
   try simp at b_11 b_12
   have c_13 := seg_at' h_10 0 1 (by decide) (ds := [.sc (.int .i64 e_9)]) rfl
   try simp at c_13
   obtain ⟨y_14, h_15, hp⟩ := zab hp
   have c_16 := C49_eq h_15
   simp at c_16
   try simp [q_7, h_8, b_11, b_12, c_13, c_16]
   rcases zad hp with ⟨h_17, hp⟩ | ⟨h_17, hp⟩
   ·try simp at h_17
    cases hp
    try simp [q_7, h_8, h_17]
    refine zah ?_
    rw [I_3_]
    exact ⟨by simp [zac, zaa, q_7, h_8, h_17], NoBox.restrict (by intro k hk hb; simp at hk hb; simp [hk, hb, q_7, h_8, h_17, hn_6 k (by simp [hk, hb])])⟩
   ·try simp at h_17
    cases hp
    try simp [q_7, h_8, h_17]
    refine zan ?_
    rw [X_4_]
    exact ⟨_, rfl, by simp [zac, zaa, q_7, h_8, h_17], NoBox.restrict (by intro k hk hb; simp at hk hb; simp [hk, hb, q_7, h_8, h_17, hn_6 k (by simp [hk, hb])])⟩
  ·try simp at h_8
   cases hp
   try simp [q_7, h_8]
   refine zak ?_
   rw [X_4_]
   exact ⟨_, rfl, by simp [zac, zaa, q_7, h_8], NoBox.restrict (by intro k hk hb; simp at hk hb; simp [hk, hb, q_7, h_8, hn_6 k (by simp [hk, hb])])⟩
 ·intro out hX
  rw [X_4_] at hX
  rcases r_18 with r_18 | r_18
  ·simp only [Sum.elim_inl, Sum.elim_inr] at hX hp
   obtain ⟨σ_20, rfl, q_22, hn_21⟩ := hX
   cases hp
   simp [Goal, FnEnd, q_22]
  ·simp only [Sum.elim_inl, Sum.elim_inr] at hX hp
   obtain ⟨σ_23, rfl, q_25, hn_24⟩ := hX
   try simp [q_25]
   obtain ⟨r_43, h_44, hp⟩ := zab hp
   obtain ⟨I_28, I_28_⟩ := exV fun (s_26 : Int) (σ : St) => (σ.env 1 = uP (1, 1) ∧ σ.env 4 = uI s_26 ∧ σ.mem (1, 1) = some [(.l .shr h_.vars.length (encL h_.vars)), (.l .shr h_.next.length (encL h_.next))]) ∧ NoBox [(1, 1)] σ.mem
   obtain ⟨X_29, X_29_⟩ := exV fun (r_43 : (Bool) ⊕ (Unit)) (out : Out) => Sum.elim (fun r_43 => ∃ σ : St, out = .ret σ ∧ (σ.env 2 = uB r_43 ∧ σ.mem (1, 1) = some [(.l .shr h_.vars.length (encL h_.vars)), (.l .shr h_.next.length (encL h_.next))]) ∧ NoBox [(1, 1)] σ.mem) (fun r_43 => ∃ σ : St, out = .exit 2 σ ∧ σ.mem (1, 1) = some [(.l .shr h_.vars.length (encL h_.vars)), (.l .shr h_.next.length (encL h_.next))] ∧ NoBox [(1, 1)] σ.mem) r_43
   refine loopP ({ hd := [1, 4], bx := [], ex := [], rt := [2] }) I_28 X_29 h_44 (by exact rfl) ?_ ?_ ?_
   ·rw [I_28_]
    exact ⟨by simp [zac, zaa, q_25], NoBox.restrict (by intro k hk hb; simp at hk hb; simp [hk, hb, q_25, hn_24 k (by simp [hk, hb])])⟩
   ·intro s_26 σ_30 a_27 hI hp
    rw [I_28_] at hI
    obtain ⟨q_32, hn_31⟩ := hI
    try simp [q_32]
    rcases zad hp with ⟨h_33, hp⟩ | ⟨h_33, hp⟩
    ·try simp at h_33
     obtain ⟨e_34, h_35, hp⟩ := zab hp
     have b_36 := at_lo h_35
     have b_37 := at_hi h_35
     try simp at b_36 b_37
     have c_38 := seg_at' h_35 0 1 (by decide) (ds := [.sc (.int .i64 e_34)]) rfl
     try simp at c_38
     obtain ⟨y_39, h_40, hp⟩ := zab hp
     have c_41 := C49_eq h_40
     simp at c_41
     try simp [q_32, h_33, b_36, b_37, c_38, c_41]
     rcases zad hp with ⟨h_42, hp⟩ | ⟨h_42, hp⟩
     ·try simp at h_42
      cases hp
      try simp [q_32, h_33, h_42]
      refine zah ?_
      rw [I_28_]
      exact ⟨by simp [zac, zaa, q_32, h_33, h_42], NoBox.restrict (by intro k hk hb; simp at hk hb; simp [hk, hb, q_32, h_33, h_42, hn_31 k (by simp [hk, hb])])⟩
     ·try simp at h_42
      cases hp
      try simp [q_32, h_33, h_42]
      refine zan ?_
      rw [X_29_]
      exact ⟨_, rfl, by simp [zac, zaa, q_32, h_33, h_42], NoBox.restrict (by intro k hk hb; simp at hk hb; simp [hk, hb, q_32, h_33, h_42, hn_31 k (by simp [hk, hb])])⟩
    ·try simp at h_33
     cases hp
     try simp [q_32, h_33]
     refine zak ?_
     rw [X_29_]
     exact ⟨_, rfl, by simp [zac, zaa, q_32, h_33], NoBox.restrict (by intro k hk hb; simp at hk hb; simp [hk, hb, q_32, h_33, hn_31 k (by simp [hk, hb])])⟩
   ·intro out hX
    rw [X_29_] at hX
    rcases r_43 with r_43 | r_43
    ·simp only [Sum.elim_inl, Sum.elim_inr] at hX hp
     obtain ⟨σ_45, rfl, q_47, hn_46⟩ := hX
     cases hp
     simp [Goal, FnEnd, q_47]
    ·simp only [Sum.elim_inl, Sum.elim_inr] at hX hp
     obtain ⟨σ_48, rfl, q_50, hn_49⟩ := hX
     cases hp
     simp [Goal, FnEnd, q_50]
theorem pc78 : PC Tryz.prog 78 C78 := pc_of (g := g78) (zai _ g78_s.2.1 ⟨pc49, trivial⟩) (ent Tryz.func78) fun x y h => w78 h
end Go.Proofs

