import Derived.Test.YtdjpaoikfigfhaaEvA7
import Derived.Below
import Derived.Laws.AppendOwn
import Derived.Laws.OwnMore
set_option linter.unusedSimpArgs false
set_option linter.unusedVariables false
set_option linter.unnecessarySimpa false
namespace Go.Ev
open Go.RowKit

theorem below_kept {w w' : World} (hb : Below w.heap.size w w') (hs : w.heap.size ≤ w'.heap.size) : Kept w w' :=
  ⟨⟨hb.os, hb.tape, hb.output⟩, fun a h => ⟨Nat.lt_of_lt_of_le h hs, hb.frozen h⟩⟩

def ghRow (G : Gh) (b n : Nat) : Gh := { G with own := fun x => if x = b then some (.at .ret []) else G.own x, use := fun x => if x = b then n else G.use x }

theorem row_back {w w' : World} {G : Gh} {e : TypeId} {n sz : Nat} {vs : List Value} {v' : Value} (h : w'.ownsRow w.heap.size e sz v' n vs) (hn : 0 < n) (hs0 : 0 < sz) (hl : vs.length = n * sz) (hsc : ∀ u ∈ vs, scal u = true)
    (hw : ∀ b t, G.own b = some t → b < w.heap.size) (hsz : w.heap.size ≤ w'.heap.size) :
    ∃ G', RA w' G' .ret (.one (C.ofD .own (.sl n (vs.map D.sc)))) v' ∧ (∀ b, b < w.heap.size → G'.own b = G.own b ∧ G'.use b = G.use b) ∧ ∀ b t, G'.own b = some t → b < w'.heap.size := by
  obtain ⟨_, h⟩ := h
  rcases h with ⟨_, h0⟩ | ⟨g, cap, cur, rfl, hg, hheap, hcap, hmax, hcur, htake⟩
  · omega
  · have hglt : g < w'.heap.size := by
      rcases Nat.lt_or_ge g w'.heap.size with hlt | hge
      · exact hlt
      · simp [Array.getElem?_eq_none hge] at hheap
    have hpos : 0 < vs.length := by rw [hl]; exact Nat.mul_pos hn hs0
    refine ⟨ghRow G g vs.length, ?_, fun b hb => ?_, fun b t hb => ?_⟩
    · show RD w' _ .ret .own [] (.sl n (vs.map D.sc)) _
      rw [RD]
      refine .inr ⟨fun h0 => by rw [List.map_eq_nil_iff] at h0; rw [h0] at hpos; simp at hpos, hn, g, 0, cap, rfl, hcap, ?_, ?_⟩
      · refine ⟨by simp [ghRow], by simp [ghRow], rfl, cur, e, hheap, fun sz' hs => ?_⟩
        have : sz' = sz := by
          have : n * sz' = n * sz := by rw [← hl, ← List.length_map (f := D.sc)]; exact hs.symm
          exact Nat.eq_of_mul_eq_mul_left hn this
        subst this
        omega
      · refine RDs_of fun j d hd => ?_
        rw [List.getElem?_map] at hd
        have hj : j < vs.length := by
          rcases Nat.lt_or_ge j vs.length with h | h
          · exact h
          · rw [List.getElem?_eq_none h] at hd; cases hd
        rw [List.getElem?_eq_getElem hj] at hd
        cases hd
        have hc : cur.toList[j]? = some vs[j] := by
          have h1 : (cur.toList.take (n * sz))[j]? = some vs[j] := by rw [htake, List.getElem?_eq_getElem hj]
          rw [List.getElem?_take, if_pos (by omega)] at h1
          exact h1
        refine ⟨vs[j], ?_, by rw [RD]; exact ⟨rfl, hsc _ (List.getElem_mem hj)⟩⟩
        unfold World.cell?
        simp only [hheap, Nat.zero_add]
        rw [← hc]
        simp
    · have : b ≠ g := by omega
      simp [ghRow, this]
    · simp only [ghRow] at hb
      split at hb
      · rename_i he; rw [he]; exact hglt
      · exact Nat.lt_of_lt_of_le (hw b t hb) hsz

theorem empty_back {w' : World} {G : Gh} {a : Option Addr} : RA w' G .ret (.one (C.ofD .own (.sl 0 []))) (.slice a 0 0) := by
  show RD w' G .ret .own [] (.sl 0 []) _
  rw [RD]
  exact .inl ⟨rfl, rfl, a, 0, rfl, fun _ => rfl⟩

theorem row_came {w : World} {G : Gh} {o : Ow} {m : Md} {p : List Nat} {n : Nat} {vs : List Value} {v : Value} (h : RD w G o m p (.sl n (vs.map D.sc)) v) :
    (n = 0 ∧ vs = [] ∧ ∃ a cap, v = .slice a 0 cap) ∨ (0 < n ∧ vs ≠ [] ∧ (∀ u ∈ vs, scal u = true) ∧ ∃ b off cap, v = .slice (some ⟨b, off, none⟩) n cap ∧ ∀ j u, vs[j]? = some u → w.cell? ⟨b, off + j, none⟩ = some u) := by
  rw [RD] at h
  rcases h with ⟨h1, h2, a, cap, rfl, _⟩ | ⟨h1, h2, b, off, cap, rfl, hc, _, hs⟩
  · exact .inl ⟨h2, List.map_eq_nil_iff.1 h1, a, cap, rfl⟩
  · have hg : ∀ j u, vs[j]? = some u → w.cell? ⟨b, off + j, none⟩ = some u ∧ scal u = true := fun j u hj => by
      obtain ⟨x, hx, hr⟩ := RDs_get hs j (.sc u) (by rw [List.getElem?_map, hj]; rfl)
      rw [RD] at hr
      obtain ⟨rfl, hr⟩ := hr
      rw [Nat.zero_add] at hx
      exact ⟨hx, hr⟩
    refine .inr ⟨h2, fun h0 => h1 (by rw [h0]; rfl), fun u hu => ?_, b, off, cap, rfl, fun j u hj => (hg j u hj).1⟩
    obtain ⟨j, hj⟩ := List.mem_iff_getElem?.1 hu
    exact (hg j u hj).2

class FlatE (α : Type) [Enc α] where
  fl : α → List Value
  eq : ∀ x : α, Enc.enc x = (fl x).map D.sc
  sc : ∀ x : α, ∀ u ∈ fl x, scal u = true
def flL {α : Type} [Enc α] [FlatE α] (xs : List α) : List Value := xs.flatMap FlatE.fl
theorem encL_flat {α : Type} [Enc α] [FlatE α] (xs : List α) : encL xs = (flL xs).map D.sc := by
  induction xs with
  | nil => rfl
  | cons x xs ih => rw [encL_cons, ih, FlatE.eq]; simp [flL]
theorem flL_length {α : Type} [Enc α] [FlatE α] (xs : List α) : (flL xs).length = xs.length * Enc.sz α := by
  rw [← encL_length, encL_flat, List.length_map]
@[simp] theorem flL_append {α : Type} [Enc α] [FlatE α] (xs ys : List α) : flL (xs ++ ys) = flL xs ++ flL ys := by simp [flL]
instance : FlatE Int := ⟨fun n => [.int .i64 n], fun _ => rfl, fun _ u h => by simp at h; subst h; rfl⟩
instance : FlatE Bool := ⟨fun n => [.bool n], fun _ => rfl, fun _ u h => by simp at h; subst h; rfl⟩
instance : FlatE ByteArray := ⟨fun n => [.string n], fun _ => rfl, fun _ u h => by simp at h; subst h; rfl⟩

def lib_Clone {α : Type} (bytes : Nat) (s : List α) : Option (List α) := (room s.length bytes).bind fun _ => some s
theorem one_arg {w : World} {G : Gh} {vals : Array Value} {x : AV} (h : ArgsOK w G [x] vals) : ∃ v, vals = #[v] ∧ ∀ d t, RA w G (.slot d t) x v := by
  obtain ⟨h1, h2⟩ := h
  obtain ⟨v, hv, hr⟩ := h2 0 x rfl
  refine ⟨v, ?_, hr⟩
  apply Array.ext_getElem?
  intro i
  match i with
  | 0 => rw [hv]; rfl
  | i + 1 => rw [Array.getElem?_eq_none (by rw [h1]; simp)]; rfl

theorem pc_clone {P : Program} {f : Nat} {α : Type} [Enc α] [FlatE α] {e : TypeId} {bytes : Nat} (hE : Enters P f)
    (hnil : ∀ n c w, Calls P f #[.slice none n c] w fun e w' => e = .returned (.slice none 0 0) ∧ w' = w)
    (hzero : ∀ a c w, Calls P f #[.slice (some a) 0 c] w fun e w' => ∃ b, e = .returned (.slice b 0 0) ∧ Below w.heap.size w w')
    (hrow : ∀ b off n c (vs : List Value) w, vs.length = n * Enc.sz α → n * bytes ≤ 140737488355328 → (∀ u ∈ vs, scal u = true) → (∀ j u, vs[j]? = some u → w.cell? ⟨b, off + j, none⟩ = some u) →
      Calls P f #[.slice (some ⟨b, off, none⟩) n c] w fun e' w' => ∃ v', e' = .returned v' ∧ w'.ownsRow w.heap.size e (Enc.sz α) v' n vs ∧ Below w.heap.size w w') :
    PC P f (specP (X := List α × Unit) fun x => lib_Clone bytes x.1) := by
  refine ⟨hE, fun args r hr G w vals hG hL hage hA => ?_⟩
  unfold specP at hr
  split at hr
  · rename_i hx
    obtain ⟨y, hy, rfl⟩ := Option.map_eq_some_iff.1 hr
    have ha := Classical.choose_spec hx
    generalize Classical.choose hx = x at hy ha
    subst ha
    obtain ⟨xs, _⟩ := x
    simp only [lib_Clone] at hy
    obtain ⟨_, hroom, hy⟩ := Option.bind_eq_some_iff.1 hy
    obtain rfl : xs = y := by simpa using hy
    have hb := room_ok hroom
    obtain ⟨v, rfl, hv⟩ := one_arg (x := av .shr xs) hA
    have hv : RD w G (.slot 0 0) .shr [] (.sl xs.length ((flL xs).map D.sc)) v := by
      have := hv 0 0
      rw [← encL_flat]
      exact this
    have hret : Res.res xs = AV.one (C.ofD .own (.sl xs.length ((flL xs).map D.sc))) := by rw [← encL_flat]; rfl
    rw [hret]
    rcases row_came hv with ⟨h1, h2, a, cap, rfl⟩ | ⟨h1, h2, hsc, b, off, cap, rfl, hc⟩
    · rw [h1, h2]
      have he : ∀ (w' : World) (a : Option Addr), Below w.heap.size w w' → ∃ v G', Ending.returned (.slice a 0 0) = .returned v ∧ RA w' G' .ret (.one (C.ofD .own (.sl 0 (([] : List Value).map D.sc)))) v ∧ w.heap.size ≤ w'.heap.size ∧ Kept w w' ∧
          (∀ b, b < w.heap.size → w'.heap[b]? = w.heap[b]? ∧ G'.own b = G.own b ∧ G'.use b = G.use b) ∧ ∀ b t, G'.own b = some t → b < w'.heap.size := fun w' a hb =>
        ⟨_, G, rfl, empty_back, hb.size, below_kept hb hb.size, fun b hlt => ⟨hb.block b hlt, rfl, rfl⟩, fun b t ho => Nat.lt_of_lt_of_le (hG b t ho).2 hb.size⟩
      cases a with
      | none => exact (hnil 0 cap w).mono fun e w' hh => by obtain ⟨rfl, rfl⟩ := hh; exact he _ _ (Below.refl _ _)
      | some a => exact (hzero a cap w).mono fun e w' hh => by obtain ⟨b, rfl, hb⟩ := hh; exact he _ _ hb
    · have hl := flL_length xs
      refine (hrow b off xs.length cap (flL xs) w hl (by have := Nat.mul_le_mul_left xs.length (Nat.le_succ bytes); rw [← Nat.succ_eq_add_one] at hb; simp only [maxBytes] at hb; omega) hsc hc).mono fun e w' hh => ?_
      obtain ⟨v', rfl, hown, hbel⟩ := hh
      obtain ⟨G', g1, g2, g3⟩ := row_back (G := G) hown h1 (Enc.pos (α := α)) hl hsc (fun b t ho => (hG b t ho).2) hbel.size
      exact ⟨v', G', rfl, g1, hbel.size, below_kept hbel hbel.size, fun b hlt => ⟨hbel.block b hlt, g2 b hlt⟩, g3⟩
  · cases hr

def tot (nn : Nat → Nat) : Nat → Nat
  | 0 => 0
  | j + 1 => tot nn j + nn j
def cat (ne : Nat → List Value) : Nat → List Value
  | 0 => []
  | j + 1 => cat ne j ++ ne j
theorem tot_mono (nn : Nat → Nat) : ∀ {i j}, i ≤ j → tot nn i ≤ tot nn j
  | i, 0, h => by obtain rfl : i = 0 := by omega
                  exact Nat.le_refl _
  | i, j + 1, h => by
    rcases Nat.lt_or_ge i (j + 1) with h' | h'
    · exact Nat.le_trans (tot_mono nn (i := i) (j := j) (by omega)) (Nat.le_add_right _ _)
    · obtain rfl : i = j + 1 := by omega
      exact Nat.le_refl _
def RowAt (w : World) (sz : Nat) (a : Option Addr) (m : Nat) (news : List Value) : Prop :=
  news.length = m * sz ∧ (∀ u ∈ news, scal u = true) ∧ (m = 0 ∨ ∃ b off, a = some ⟨b, off, none⟩ ∧ ∀ j u, news[j]? = some u → w.cell? ⟨b, off + j, none⟩ = some u)
theorem scal_one {u : Value} (h : scal u = true) : u.oneCell' = true := by cases u <;> first | rfl | cases h

theorem run_append_rowAt {P : Program} {w w0 : World} (base : Nat) (t ty e : TypeId) (i : TypeInfo) (z : Value) (size bytes : Nat) (ht : P.underlying t = some (.slice e)) (hi : P.info? e = some i) (hz : i.zero = some z)
    (hsize : i.size = size) (hby : i.bytes = bytes) (hzs : z.cells.size = size) (hsz : 0 < size)
    (v : Value) (n : Nat) (xs : List Value) (hown : w.ownsRow base e size v n xs) (a : Option Addr) (m c : Nat) (news : List Value) (hrow : RowAt w0 size a m news) (hbel : ∀ k, k < w0.heap.size → w.heap[k]? = w0.heap[k]?)
    (h63 : n + m ≤ maxLen) (hbytes : (n + m) * bytes ≤ 140737488355328) (hbase : base ≤ w.heap.size) :
    ∃ v' w', (Builtin.append_ #[t, t] ty #[v, .slice a m c]).run P w = .ok v' w' ∧ w'.ownsRow base e size v' (n + m) (xs ++ news) ∧ w.grownBy w' v.ownBlock ∧ (m = 0 → v' = v) := by
  obtain ⟨hl, hsc, hr⟩ := hrow
  rcases hr with h0 | ⟨b, off, rfl, hc⟩
  · subst h0
    have hnews : news = [] := List.length_eq_zero_iff.1 (by simpa using hl)
    subst hnews
    refine ⟨v, w, ?_, by simpa using hown, ⟨rfl, rfl, rfl, Nat.le_refl _, fun _ _ _ => rfl⟩, fun _ => rfl⟩
    rcases hown.2 with ⟨rfl, rfl⟩ | ⟨g, cap, cur, rfl, _, _, hnc, _⟩
    · exact run_append_zero t ty e i ht hi none 0 0 (Nat.le_refl _) a c
    · exact run_append_zero t ty e i ht hi _ n cap hnc a c
  · rcases Nat.eq_zero_or_pos m with h0 | hm
    · subst h0
      have hnews : news = [] := List.length_eq_zero_iff.1 (by simpa using hl)
      subst hnews
      refine ⟨v, w, ?_, by simpa using hown, ⟨rfl, rfl, rfl, Nat.le_refl _, fun _ _ _ => rfl⟩, fun _ => rfl⟩
      rcases hown.2 with ⟨rfl, rfl⟩ | ⟨g, cap, cur, rfl, _, _, hnc, _⟩
      · exact run_append_zero t ty e i ht hi none 0 0 (Nat.le_refl _) _ c
      · exact run_append_zero t ty e i ht hi _ n cap hnc _ c
    · obtain ⟨v', w', h1, h2, h3, _⟩ := run_append_own w base t ty e i z size bytes ht hi hz hsize hby hzs hsz v n xs hown ⟨b, off, none⟩ m c news hl (fun j u hj => by
        rw [Addr.add_lit]
        have := hc j u hj
        have hlt : b < w0.heap.size := World.block_lt_of_cell? _ _ this
        rw [← this]
        exact World.cell?_of_block (hbel b hlt)) (fun u hu => scal_one (hsc u hu)) h63 hbytes hbase
      exact ⟨v', w', h1, h2, h3, fun h0 => by omega⟩


theorem wrap_add {a b : Nat} (h : a + b ≤ maxLen) : wrap64 ((a : Int) + (b : Int)) = ((a + b : Nat) : Int) := by
  unfold maxLen at h
  unfold wrap64
  omega


theorem take_snoc {α : Type} {xss : List (List α)} {j : Nat} (h : j < xss.length) : (xss.take (j + 1)).flatten = (xss.take j).flatten ++ xss.getD j [] := by
  rw [List.take_add_one, List.getElem?_eq_getElem h, List.flatten_append]
  simp [List.getD, List.getElem?_eq_getElem h]
theorem tot_take {α : Type} (xss : List (List α)) : ∀ j, j ≤ xss.length → tot (fun i => (xss.getD i []).length) j = (xss.take j).flatten.length
  | 0, _ => rfl
  | j + 1, h => by rw [tot, tot_take xss j (by omega), take_snoc (by omega), List.length_append]
theorem cat_take {α : Type} [Enc α] [FlatE α] (xss : List (List α)) : ∀ j, j ≤ xss.length → cat (fun i => flL (xss.getD i [])) j = flL (xss.take j).flatten
  | 0, _ => rfl
  | j + 1, h => by rw [cat, cat_take xss j (by omega), take_snoc (by omega), flL_append]
theorem encLL {α : Type} [Enc α] (xss : List (List α)) : encL xss = xss.map fun xs => D.sl xs.length (encL xs) := by
  induction xss with
  | nil => rfl
  | cons x xs ih => rw [encL_cons, ih]; rfl

def lib_Concat {α : Type} (bytes : Nat) (s : List (List α)) : Option (List α) := (room s.length 24).bind fun _ => (room s.flatten.length bytes).bind fun _ => some s.flatten

theorem pc_concat {P : Program} {f : Nat} {α : Type} [Enc α] [FlatE α] {e : TypeId} {bytes : Nat} (hE : Enters P f)
    (hwalk : ∀ (xa : Option Addr) (xb xo N xc : Nat) (ra : Nat → Option Addr) (nn rc : Nat → Nat) (ne : Nat → List Value) (w : World), (0 < N → xa = some ⟨xb, xo, none⟩) → N ≤ maxLen →
      (∀ j, j < N → w.cell? ⟨xb, xo + j, none⟩ = some (.slice (ra j) (nn j) (rc j))) → (∀ j, j < N → RowAt w (Enc.sz α) (ra j) (nn j) (ne j)) → tot nn N * bytes ≤ 140737488355328 →
      Calls P f #[.slice xa N xc] w fun e' w' => ∃ v, e' = .returned v ∧ w'.ownsRow w.heap.size e (Enc.sz α) v (tot nn N) (cat ne N) ∧ (tot nn N = 0 → v = .slice none 0 0) ∧ Below w.heap.size w w') :
    PC P f (specP (X := List (List α) × Unit) fun x => lib_Concat bytes x.1) := by
  refine ⟨hE, fun args r hr G w vals hG hL hage hA => ?_⟩
  unfold specP at hr
  split at hr
  · rename_i hx
    obtain ⟨y, hy, rfl⟩ := Option.map_eq_some_iff.1 hr
    have ha := Classical.choose_spec hx
    generalize Classical.choose hx = x at hy ha
    subst ha
    obtain ⟨xss, _⟩ := x
    simp only [lib_Concat] at hy
    obtain ⟨_, hroom0, hy⟩ := Option.bind_eq_some_iff.1 hy
    obtain ⟨_, hroom, hy⟩ := Option.bind_eq_some_iff.1 hy
    obtain rfl : xss.flatten = y := by simpa using hy
    have hb0 := room_ok hroom0
    have hb := room_ok hroom
    obtain ⟨v, rfl, hv⟩ := one_arg (x := av .shr xss) hA
    have hv : RD w G (.slot 0 0) .shr [] (.sl xss.length (encL xss)) v := hv 0 0
    have hret : Res.res xss.flatten = AV.one (C.ofD .own (.sl xss.flatten.length ((flL xss.flatten).map D.sc))) := by rw [← encL_flat]; rfl
    rw [hret]
    have key : ∃ (xa : Option Addr) (xb xo xc : Nat) (ra : Nat → Option Addr) (rc : Nat → Nat), v = .slice xa xss.length xc ∧ (0 < xss.length → xa = some ⟨xb, xo, none⟩) ∧
        (∀ j, j < xss.length → w.cell? ⟨xb, xo + j, none⟩ = some (.slice (ra j) ((xss.getD j []).length) (rc j))) ∧ (∀ j, j < xss.length → RowAt w (Enc.sz α) (ra j) ((xss.getD j []).length) (flL (xss.getD j []))) := by
      rw [RD] at hv
      rcases hv with ⟨h1, h2, a, cap, rfl, _⟩ | ⟨h1, h2, b, off, cap, rfl, hcap, _, hs⟩
      · refine ⟨a, 0, 0, cap, fun _ => none, fun _ => 0, by rw [h2], fun h => by omega, fun j h => by omega, fun j h => by omega⟩
      · have hg : ∀ j, ∃ a c, j < xss.length → w.cell? ⟨b, off + j, none⟩ = some (.slice a ((xss.getD j []).length) c) ∧ RowAt w (Enc.sz α) a ((xss.getD j []).length) (flL (xss.getD j [])) := by
          intro j
          by_cases hj : j < xss.length
          · have hd : (encL xss)[j]? = some (.sl xss[j].length ((flL xss[j]).map D.sc)) := by
              rw [encLL, List.getElem?_map, List.getElem?_eq_getElem hj, Option.map_some, encL_flat]
            obtain ⟨u, hu, hru⟩ := RDs_get hs j _ hd
            rw [Nat.zero_add] at hu
            have hl := flL_length xss[j]
            simp only [List.getD, List.getElem?_eq_getElem hj, Option.getD_some]
            rcases row_came hru with ⟨h3, h4, a, c, rfl⟩ | ⟨h3, h4, hsc, b2, off2, c, rfl, hc⟩
            · exact ⟨a, c, fun _ => ⟨by rw [hu, h3], ⟨hl, fun u hu => by rw [h4] at hu; simp at hu, .inl h3⟩⟩⟩
            · exact ⟨some ⟨b2, off2, none⟩, c, fun _ => ⟨hu, ⟨hl, hsc, .inr ⟨b2, off2, rfl, hc⟩⟩⟩⟩
          · exact ⟨none, 0, fun h => absurd h hj⟩
        refine ⟨some ⟨b, off, none⟩, b, off, cap, fun j => Classical.choose (hg j), fun j => Classical.choose (Classical.choose_spec (hg j)), rfl, fun _ => rfl, fun j hj => ?_, fun j hj => ?_⟩
        · exact (Classical.choose_spec (Classical.choose_spec (hg j)) hj).1
        · exact (Classical.choose_spec (Classical.choose_spec (hg j)) hj).2
    obtain ⟨xa, xb, xo, xc, ra, rc, rfl, k1, k2, k3⟩ := key
    have ht := tot_take xss xss.length (Nat.le_refl _)
    have hcat := cat_take xss xss.length (Nat.le_refl _)
    rw [List.take_length] at ht hcat
    have hw := hwalk xa xb xo xss.length xc ra (fun i => (xss.getD i []).length) rc (fun i => flL (xss.getD i [])) w k1 (by simp only [maxBytes] at hb0; unfold maxLen; omega) k2 k3
      (by rw [ht]; have := Nat.mul_le_mul_left xss.flatten.length (Nat.le_succ bytes); rw [← Nat.succ_eq_add_one] at hb; simp only [maxBytes] at hb; omega)
    rw [ht, hcat] at hw
    refine hw.mono fun e w' hh => ?_
    obtain ⟨v', rfl, hown, hnil, hbel⟩ := hh
    rcases Nat.eq_zero_or_pos xss.flatten.length with h0 | h0
    · rw [hnil h0, List.length_eq_zero_iff.1 h0]
      exact ⟨_, G, rfl, empty_back, hbel.size, below_kept hbel hbel.size, fun b hlt => ⟨hbel.block b hlt, rfl, rfl⟩, fun b t ho => Nat.lt_of_lt_of_le (hG b t ho).2 hbel.size⟩
    · have hsc : ∀ u ∈ flL xss.flatten, scal u = true := by
        intro u hu
        obtain ⟨x, _, hx⟩ := List.mem_flatMap.1 hu
        exact FlatE.sc x u hx
      obtain ⟨G', g1, g2, g3⟩ := row_back (G := G) hown h0 (Enc.pos (α := α)) (flL_length _) hsc (fun b t ho => (hG b t ho).2) hbel.size
      exact ⟨v', G', rfl, g1, hbel.size, below_kept hbel hbel.size, fun b hlt => ⟨hbel.block b hlt, g2 b hlt⟩, g3⟩
  · cases hr

end Go.Ev


namespace Go.Ev
def codeP : List Nat → Nat
  | [] => 0
  | x :: r => 2 ^ x * (2 * codeP r + 1)
theorem pow_odd : ∀ (x y a b : Nat), 2 ^ x * (2 * a + 1) = 2 ^ y * (2 * b + 1) → x = y ∧ a = b
  | 0, 0, a, b, h => ⟨rfl, by rw [Nat.pow_zero, Nat.one_mul, Nat.one_mul] at h; omega⟩
  | 0, y + 1, a, b, h => by
    rw [Nat.pow_succ, Nat.mul_right_comm] at h
    generalize 2 ^ y * (2 * b + 1) = m at h
    omega
  | x + 1, 0, a, b, h => by
    rw [Nat.pow_succ, Nat.mul_right_comm] at h
    generalize 2 ^ x * (2 * a + 1) = m at h
    omega
  | x + 1, y + 1, a, b, h => by
    rw [Nat.pow_succ, Nat.pow_succ, Nat.mul_right_comm, Nat.mul_right_comm (2 ^ y)] at h
    have := pow_odd x y a b (by omega)
    exact ⟨by omega, this.2⟩
theorem codeP_inj : ∀ {p q : List Nat}, codeP p = codeP q → p = q
  | [], [], _ => rfl
  | [], y :: q, h => by
    rw [codeP, codeP] at h
    have := Nat.mul_pos (Nat.pow_pos (n := y) (show 0 < 2 by omega)) (show 0 < 2 * codeP q + 1 by omega)
    omega
  | x :: p, [], h => by
    rw [codeP, codeP] at h
    have := Nat.mul_pos (Nat.pow_pos (n := x) (show 0 < 2 by omega)) (show 0 < 2 * codeP p + 1 by omega)
    omega
  | x :: p, y :: q, h => by
    rw [codeP, codeP] at h
    obtain ⟨h1, h2⟩ := pow_odd _ _ _ _ h
    rw [h1, codeP_inj h2]
def pk (p : List Nat) : Nat := bigK + codeP p
theorem pk_inj {p q : List Nat} (h : pk p = pk q) : p = q := codeP_inj (by unfold pk at h; omega)
theorem pk_ge (p : List Nat) : bigK ≤ pk p := by unfold pk; omega
theorem key_ne {d : Nat} {p q : List Nat} (h : p ≠ q) : ((d, pk p) : Key) ≠ (d, pk q) := fun e => h (pk_inj (Prod.mk.inj e).2)
theorem app_ne {p : List Nat} {j : Nat} {q : List Nat} : p ≠ p ++ j :: q := fun h => by
  have := congrArg List.length h
  simp at this
theorem fork_ne {p q r : List Nat} {i j : Nat} (h : i ≠ j) : p ++ i :: q ≠ p ++ j :: r := fun e => by
  have := List.append_cancel_left e
  simp only [List.cons.injEq] at this
  exact h this.1

def szD (n : Nat) (cs : List D) : Nat := if n = 0 then 1 else cs.length / n
mutual
def wfD : D → Prop
  | .sc _ => True
  | .sl n cs => (0 < szD n cs ∧ cs.length = n * szD n cs) ∧ wfL cs
def wfL : List D → Prop
  | [] => True
  | c :: cs => wfD c ∧ wfL cs
end
def bxC (d : Nat) (p : List Nat) : D → C
  | .sc v => .s v
  | .sl n cs => .bs (d, pk p) n (szD n cs)
def bxL (d : Nat) (p : List Nat) : Nat → List D → List C
  | _, [] => []
  | i, c :: cs => bxC d (p ++ [i]) c :: bxL d p (i + 1) cs
mutual
def subD (m : Mem) (d : Nat) : List Nat → D → Prop
  | _, .sc _ => True
  | p, .sl _ cs => m (d, pk p) = some (bxL d p 0 cs) ∧ subL m d p 0 cs
def subL (m : Mem) (d : Nat) : List Nat → Nat → List D → Prop
  | _, _, [] => True
  | p, i, c :: cs => subD m d (p ++ [i]) c ∧ subL m d p (i + 1) cs
end
mutual
def thawD (d : Nat) : Plc → List Nat → D → List Gho
  | _, _, .sc _ => []
  | pl, p, .sl n cs => .thaw pl (pk p) (szD n cs) :: thawL d p 0 cs
def thawL (d : Nat) : List Nat → Nat → List D → List Gho
  | _, _, [] => []
  | p, i, c :: cs => thawD d (.mem (d, pk p) i) (p ++ [i]) c ++ thawL d p (i + 1) cs
end
mutual
def frzD (d : Nat) : Plc → List Nat → D → List Gho
  | _, _, .sc _ => []
  | pl, p, .sl _ cs => frzL d p 0 cs ++ [.frz pl]
def frzL (d : Nat) : List Nat → Nat → List D → List Gho
  | _, _, [] => []
  | p, i, c :: cs => frzD d (.mem (d, pk p) i) (p ++ [i]) c ++ frzL d p (i + 1) cs
end
theorem bxL_length (d : Nat) (p : List Nat) : ∀ (i : Nat) (cs : List D), (bxL d p i cs).length = cs.length
  | _, [] => rfl
  | i, c :: cs => by rw [bxL, List.length_cons, bxL_length d p (i + 1) cs, List.length_cons]
theorem bxL_app (d : Nat) (p : List Nat) : ∀ (cs ds : List D) (i : Nat), bxL d p i (cs ++ ds) = bxL d p i cs ++ bxL d p (i + cs.length) ds
  | [], _, _ => rfl
  | c :: cs, ds, i => by
    rw [List.cons_append, bxL, bxL, bxL_app d p cs ds (i + 1), List.cons_append, List.length_cons]
    congr 3
    omega
theorem subL_app {m : Mem} {d : Nat} {p : List Nat} : ∀ {cs ds : List D} {i : Nat}, subL m d p i (cs ++ ds) ↔ subL m d p i cs ∧ subL m d p (i + cs.length) ds
  | [], ds, i => by simp [subL]
  | c :: cs, ds, i => by
    rw [List.cons_append, subL, subL, subL_app (cs := cs), List.length_cons, show i + 1 + cs.length = i + (cs.length + 1) by omega, and_assoc]
theorem wfL_app : ∀ {cs ds : List D}, wfL (cs ++ ds) ↔ wfL cs ∧ wfL ds
  | [], ds => by simp [wfL]
  | c :: cs, ds => by rw [List.cons_append, wfL, wfL, wfL_app (cs := cs), and_assoc]

-- what lies in a deep row hangs on the keys of its own paths alone
mutual
theorem subD_congr {m m' : Mem} {d : Nat} : ∀ {c : D} {p : List Nat}, (∀ q, m' (d, pk (p ++ q)) = m (d, pk (p ++ q))) → subD m d p c → subD m' d p c
  | .sc _, _, _, _ => by rw [subD]; trivial
  | .sl n cs, p, h, hs => by
    rw [subD] at hs ⊢
    exact ⟨by have := h []; rw [List.append_nil] at this; rw [this]; exact hs.1, subL_congrN (fun j q _ _ => h (j :: q)) hs.2⟩
theorem subL_congrN {m m' : Mem} {d : Nat} : ∀ {cs : List D} {p : List Nat} {i : Nat}, (∀ j q, i ≤ j → j < i + cs.length → m' (d, pk (p ++ j :: q)) = m (d, pk (p ++ j :: q))) → subL m d p i cs → subL m' d p i cs
  | [], _, _, _, _ => by rw [subL]; trivial
  | c :: cs, p, i, h, hs => by
    rw [subL] at hs ⊢
    rw [List.length_cons] at h
    exact ⟨subD_congr (fun q => by have := h i q (Nat.le_refl _) (by omega); rwa [show p ++ i :: q = p ++ [i] ++ q by simp] at this) hs.1, subL_congrN (fun j q hj hj2 => h j q (by omega) (by omega)) hs.2⟩
end
theorem subL_congr {m m' : Mem} {d : Nat} {cs : List D} {p : List Nat} {i : Nat} (h : ∀ j q, i ≤ j → m' (d, pk (p ++ j :: q)) = m (d, pk (p ++ j :: q))) (hs : subL m d p i cs) : subL m' d p i cs := subL_congrN (fun j q hj _ => h j q hj) hs

theorem kill_kill (q1 q2 : Key → Bool) (c : C) : (c.kill q1).kill q2 = c.kill fun k => q1 k || q2 k := by
  cases c with
  | ptr k off => by_cases h1 : q1 k = true <;> by_cases h2 : q2 k = true <;> simp [C.kill, h1, h2]
  | bs k n sz => by_cases h1 : q1 k = true <;> by_cases h2 : q2 k = true <;> simp [C.kill, h1, h2]
  | fn f caps =>
    have : (caps.any fun c => q1 c.1 || q2 c.1) = (caps.any (fun c => q1 c.1) || caps.any fun c => q2 c.1) := by
      induction caps with
      | nil => rfl
      | cons a r ih => simp only [List.any_cons, ih]; cases q1 a.1 <;> cases q2 a.1 <;> simp
    have e : ∀ q : Key → Bool, (C.fn f caps).kill q = if (caps.any fun c => q c.1) = true then .dead else .fn f caps := fun q => rfl
    rw [e q1, e (fun k => q1 k || q2 k), this]
    cases h1 : (caps.any fun c => q1 c.1) with
    | true => rfl
    | false => rw [if_neg (by simp), e q2, Bool.false_or]
  | _ => rfl
theorem akill_kill (q1 q2 : Key → Bool) (a : AV) : (a.kill q1).kill q2 = a.kill fun k => q1 k || q2 k := by
  cases a with
  | one c => simp only [AV.kill, kill_kill]
  | ag cs => simp only [AV.kill, List.map_map, Function.comp_def, kill_kill]
  | tu vs => simp only [AV.kill, List.map_map, Function.comp_def, kill_kill]
theorem ofD_kill (q : Key → Bool) (m : Md) (x : D) : (C.ofD m x).kill q = C.ofD m x := by cases x <;> rfl
theorem ofDs_kill (q : Key → Bool) (m : Md) (xs : List D) : (xs.map (C.ofD m)).map (C.kill q) = xs.map (C.ofD m) := by
  rw [List.map_map]; exact List.map_congr_left fun x _ => ofD_kill q m x
theorem ofD_killB (x : D) : (C.ofD .own x).killB = C.ofD .own x := by cases x <;> rfl
theorem bxC_kill {q : Key → Bool} {d : Nat} {p : List Nat} (h : q (d, pk p) = false) (x : D) : (bxC d p x).kill q = bxC d p x := by
  cases x with
  | sc v => rfl
  | sl n cs => simp [bxC, C.kill, h]
theorem bxL_kill {q : Key → Bool} {d : Nat} {p : List Nat} : ∀ {cs : List D} {i : Nat}, (∀ j, i ≤ j → q (d, pk (p ++ [j])) = false) → (bxL d p i cs).map (C.kill q) = bxL d p i cs
  | [], _, _ => rfl
  | c :: cs, i, h => by rw [bxL, List.map_cons, bxC_kill (h i (Nat.le_refl _)), bxL_kill fun j hj => h j (by omega)]
mutual
theorem subD_kill {q : Key → Bool} {m m' : Mem} {d : Nat} : ∀ {c : D} {p : List Nat}, (∀ r, q (d, pk (p ++ r)) = false) → (∀ r, m' (d, pk (p ++ r)) = (m (d, pk (p ++ r))).map (List.map (C.kill q))) → subD m d p c → subD m' d p c
  | .sc _, _, _, _, _ => by rw [subD]; trivial
  | .sl n cs, p, hq, h, hs => by
    rw [subD] at hs ⊢
    refine ⟨?_, subL_kill (fun j r _ => hq (j :: r)) (fun j r _ => h (j :: r)) hs.2⟩
    have := h []
    rw [List.append_nil] at this
    rw [this, hs.1, Option.map_some, bxL_kill fun j _ => hq [j]]
theorem subL_kill {q : Key → Bool} {m m' : Mem} {d : Nat} : ∀ {cs : List D} {p : List Nat} {i : Nat}, (∀ j r, i ≤ j → q (d, pk (p ++ j :: r)) = false) → (∀ j r, i ≤ j → m' (d, pk (p ++ j :: r)) = (m (d, pk (p ++ j :: r))).map (List.map (C.kill q))) → subL m d p i cs → subL m' d p i cs
  | [], _, _, _, _, _ => by rw [subL]; trivial
  | c :: cs, p, i, hq, h, hs => by
    rw [subL] at hs ⊢
    exact ⟨subD_kill (fun r => by have := hq i r (Nat.le_refl _); rwa [show p ++ i :: r = p ++ [i] ++ r by simp] at this) (fun r => by have := h i r (Nat.le_refl _); rwa [show p ++ i :: r = p ++ [i] ++ r by simp] at this) hs.1,
      subL_kill (fun j r hj => hq j r (by omega)) (fun j r hj => h j r (by omega)) hs.2⟩
end

structure KB (σ : St) : Prop where
  env : ∀ t, (σ.env t).killB = σ.env t
  mem : ∀ k cs, σ.mem k = some cs → ∀ c ∈ cs, c.killB = c
theorem map_id_of {cs : List C} {f : C → C} (h : ∀ c ∈ cs, f c = c) : cs.map f = cs := by
  have := List.map_congr_left (f := f) (g := id) (l := cs) h
  rw [this, List.map_id]
theorem KB.eq {σ : St} (h : KB σ) : σ.killB = σ := by
  cases σ with
  | mk env mem =>
    unfold St.killB
    congr 1
    · exact funext h.env
    · funext k
      have hm := h.mem k
      show (mem k).map (List.map C.killB) = mem k
      cases hk : mem k with
      | none => rfl
      | some cs => rw [Option.map_some, map_id_of (hm cs hk)]
theorem ghoLB_app (d : Nat) : ∀ (l1 l2 : List Gho) (σ : St), ghoLB d (l1 ++ l2) σ = (ghoLB d l1 σ).bind (ghoLB d l2)
  | [], _, _ => rfl
  | x :: l1, l2, σ => by
    rw [List.cons_append, ghoLB, ghoLB]
    cases ghoB d σ x with
    | none => rfl
    | some σ1 => simp only [Option.bind_some]; exact ghoLB_app d l1 l2 σ1
theorem KB.put {σ : St} (h : KB σ) {m : Mem} (hm : ∀ k cs, m k = some cs → (σ.mem k = some cs) ∨ ∀ c ∈ cs, c.killB = c) : KB { σ with mem := m } :=
  ⟨h.env, fun k cs hk => by
    rcases hm k cs hk with h1 | h1
    · exact h.mem k cs h1
    · exact h1⟩
theorem set_mid {α : Type} {pre rest : List α} {a b : α} {i : Nat} (h : pre.length = i) : (pre ++ a :: rest).set i b = pre ++ b :: rest := by
  subst h
  rw [List.set_append_right _ _ (Nat.le_refl _), Nat.sub_self, List.set_cons_zero]
theorem get_mid {α : Type} {pre rest : List α} {a : α} {i : Nat} (h : pre.length = i) : (pre ++ a :: rest)[i]? = some a := by
  subst h
  simp
theorem thaw_one {d i n : Nat} {p : List Nat} {σ : St} {pre rest : List C} {cs : List D} (hK : KB σ) (hi : pre.length = i) (hw : 0 < szD n cs ∧ cs.length = n * szD n cs)
    (hm : σ.mem (d, pk p) = some (pre ++ .l .own n cs :: rest)) (hf : σ.mem (d, pk (p ++ [i])) = none) :
    ∃ σ1, ghoB d σ (.thaw (.mem (d, pk p) i) (pk (p ++ [i])) (szD n cs)) = some σ1 ∧ KB σ1 ∧ σ1.env = σ.env ∧ σ1.mem (d, pk p) = some (pre ++ .bs (d, pk (p ++ [i])) n (szD n cs) :: rest) ∧
      σ1.mem (d, pk (p ++ [i])) = some (cs.map (C.ofD .own)) ∧ ∀ k, k ≠ (d, pk p) → k ≠ (d, pk (p ++ [i])) → σ1.mem k = σ.mem k := by
  have hne : ((d, pk p) : Key) ≠ (d, pk (p ++ [i])) := key_ne app_ne
  refine ⟨{ σ with mem := upd (upd σ.mem (d, pk p) (some (pre ++ .bs (d, pk (p ++ [i])) n (szD n cs) :: rest))) (d, pk (p ++ [i])) (some (cs.map (C.ofD .own))) }, ?_, ?_, rfl, ?_, ?_, ?_⟩
  · simp only [ghoB, Plc.loc, Option.bind_some, Loc.get, hm, get_mid hi, Loc.own?, hf]
    rw [if_pos (by simp [hw.1]; exact hw.2)]
    rw [hK.eq]
    simp only [Loc.set, hm, set_mid hi, Md.elem]
  · refine hK.put fun k c hk => ?_
    have hk' : upd (upd σ.mem (d, pk p) (some (pre ++ .bs (d, pk (p ++ [i])) n (szD n cs) :: rest))) (d, pk (p ++ [i])) (some (cs.map (C.ofD .own))) k = some c := hk
    unfold upd at hk'
    split at hk'
    · cases hk'
      refine .inr fun x hx => ?_
      obtain ⟨y, _, rfl⟩ := List.mem_map.1 hx
      exact ofD_killB y
    · split at hk'
      · cases hk'
        refine .inr fun x hx => ?_
        rcases List.mem_append.1 hx with hx | hx
        · exact hK.mem _ _ hm x (List.mem_append.2 (.inl hx))
        · rcases List.mem_cons.1 hx with rfl | hx
          · rfl
          · exact hK.mem _ _ hm x (List.mem_append.2 (.inr (List.mem_cons_of_mem _ hx)))
      · exact .inl hk'
  · show upd (upd _ _ _) _ _ _ = _
    unfold upd
    rw [if_neg hne, if_pos rfl]
  · show upd (upd _ _ _) _ _ _ = _
    unfold upd
    rw [if_pos rfl]
  · intro k h1 h2
    show upd (upd _ _ _) _ _ _ = _
    unfold upd
    rw [if_neg h2, if_neg h1]
mutual
theorem thawD_ok {d : Nat} : ∀ (c : D) (p : List Nat) (i : Nat) (σ : St) (pre rest : List C), KB σ → wfD c → pre.length = i → σ.mem (d, pk p) = some (pre ++ C.ofD .own c :: rest) → (∀ q, σ.mem (d, pk (p ++ i :: q)) = none) →
    ∃ σ', ghoLB d (thawD d (.mem (d, pk p) i) (p ++ [i]) c) σ = some σ' ∧ KB σ' ∧ σ'.env = σ.env ∧ σ'.mem (d, pk p) = some (pre ++ bxC d (p ++ [i]) c :: rest) ∧ subD σ'.mem d (p ++ [i]) c ∧
      ∀ k, k ≠ (d, pk p) → (∀ q, k ≠ (d, pk (p ++ i :: q))) → σ'.mem k = σ.mem k
  | .sc v, p, i, σ, pre, rest, hK, _, _, hm, _ => ⟨σ, by rw [thawD]; rfl, hK, rfl, hm, by rw [subD]; trivial, fun _ _ _ => rfl⟩
  | .sl n cs, p, i, σ, pre, rest, hK, hw, hi, hm, hf => by
    rw [wfD] at hw
    obtain ⟨σ1, h1, hK1, he1, hp1, hc1, ho1⟩ := thaw_one hK hi hw.1 hm (hf [])
    obtain ⟨σ2, h2, hK2, he2, hp2, hs2, ho2⟩ := thawL_ok cs (p ++ [i]) 0 σ1 [] hK1 hw.2 rfl hc1 (fun j q _ => by
      rw [ho1 _ (key_ne (by simp)) (key_ne (by simp))]
      have := hf (j :: q)
      simpa using this)
    refine ⟨σ2, by rw [thawD, ghoLB, h1, Option.bind_some, h2], hK2, he2.trans he1, ?_, ?_, fun k hk1 hk2 => ?_⟩
    · rw [ho2 _ (key_ne app_ne) (fun j q _ => key_ne (by simp)), hp1]
      rfl
    · rw [subD]
      exact ⟨by rw [hp2]; rfl, hs2⟩
    · rw [ho2 k (by have := hk2 []; simpa using this) (fun j q _ => by have := hk2 (j :: q); simpa using this), ho1 k hk1 (by have := hk2 []; simpa using this)]
theorem thawL_ok {d : Nat} : ∀ (cs : List D) (p : List Nat) (i : Nat) (σ : St) (pre : List C), KB σ → wfL cs → pre.length = i → σ.mem (d, pk p) = some (pre ++ cs.map (C.ofD .own)) → (∀ j q, i ≤ j → σ.mem (d, pk (p ++ j :: q)) = none) →
    ∃ σ', ghoLB d (thawL d p i cs) σ = some σ' ∧ KB σ' ∧ σ'.env = σ.env ∧ σ'.mem (d, pk p) = some (pre ++ bxL d p i cs) ∧ subL σ'.mem d p i cs ∧
      ∀ k, k ≠ (d, pk p) → (∀ j q, i ≤ j → k ≠ (d, pk (p ++ j :: q))) → σ'.mem k = σ.mem k
  | [], p, i, σ, pre, hK, _, _, hm, _ => ⟨σ, by rw [thawL]; rfl, hK, rfl, hm, by rw [subL]; trivial, fun _ _ _ => rfl⟩
  | c :: cs, p, i, σ, pre, hK, hw, hi, hm, hf => by
    rw [wfL] at hw
    obtain ⟨σ1, h1, hK1, he1, hp1, hs1, ho1⟩ := thawD_ok c p i σ pre (cs.map (C.ofD .own)) hK hw.1 hi hm (fun q => hf i q (Nat.le_refl _))
    obtain ⟨σ2, h2, hK2, he2, hp2, hs2, ho2⟩ := thawL_ok cs p (i + 1) σ1 (pre ++ [bxC d (p ++ [i]) c]) hK1 hw.2 (by simp [hi]) (by rw [hp1]; simp) (fun j q hj => by
      rw [ho1 _ (key_ne fun e => app_ne e.symm) (fun r => key_ne (fork_ne (by omega)))]
      exact hf j q (by omega))
    refine ⟨σ2, by rw [thawL, ghoLB_app, h1, Option.bind_some, h2], hK2, he2.trans he1, ?_, ?_, fun k hk1 hk2 => ?_⟩
    · rw [hp2, bxL]; simp
    · rw [subL]
      refine ⟨subD_congr (fun q => ?_) hs1, hs2⟩
      rw [show p ++ [i] ++ q = p ++ i :: q by simp]
      exact ho2 _ (key_ne fun e => app_ne e.symm) (fun j r hj => key_ne (fork_ne (by omega)))
    · rw [ho2 k hk1 (fun j q hj => hk2 j q (by omega)), ho1 k hk1 (fun q => hk2 i q (Nat.le_refl _))]
end

theorem mode_own (cs : List D) : modeOf (cs.map (C.ofD .own)) = some .own := by
  unfold modeOf
  rw [if_pos]
  rw [List.all_eq_true]
  intro x hx
  obtain ⟨y, _, rfl⟩ := List.mem_map.1 hx
  exact ownD_ofD y
theorem frz_one {d i n : Nat} {p : List Nat} {σ : St} {pre rest : List C} {cs : List D} (hi : pre.length = i) (hw : 0 < szD n cs ∧ cs.length = n * szD n cs)
    (hm : σ.mem (d, pk p) = some (pre ++ .bs (d, pk (p ++ [i])) n (szD n cs) :: rest)) (hc : σ.mem (d, pk (p ++ [i])) = some (cs.map (C.ofD .own))) :
    ∃ σ1, ghoB d σ (.frz (.mem (d, pk p) i)) = some σ1 ∧ (∀ t, σ1.env t = (σ.env t).kill (· == (d, pk (p ++ [i])))) ∧
      σ1.mem (d, pk p) = some (pre.map (C.kill (· == (d, pk (p ++ [i])))) ++ .l .own n cs :: rest.map (C.kill (· == (d, pk (p ++ [i]))))) ∧ σ1.mem (d, pk (p ++ [i])) = none ∧
      ∀ k, k ≠ (d, pk p) → k ≠ (d, pk (p ++ [i])) → σ1.mem k = (σ.mem k).map (List.map (C.kill (· == (d, pk (p ++ [i]))))) := by
  have hne : ((d, pk p) : Key) ≠ (d, pk (p ++ [i])) := key_ne app_ne
  generalize hkey : ((d, pk (p ++ [i])) : Key) = key at *
  have hkd : key.1 = d := by rw [← hkey]
  have hmk : (σ.killK key).mem (d, pk p) = some (pre.map (C.kill (· == key)) ++ .dead :: rest.map (C.kill (· == key))) := by
    show memKill (· == key) σ.mem (d, pk p) = _
    unfold memKill
    rw [if_neg (by simpa using hne), hm]
    simp [C.kill]
  refine ⟨{ σ.killK key with mem := upd (σ.killK key).mem (d, pk p) (some (pre.map (C.kill (· == key)) ++ .l .own n cs :: rest.map (C.kill (· == key)))) }, ?_, fun t => rfl, ?_, ?_, ?_⟩
  · have hlen : (cs.map (C.ofD .own)).length = n * szD n cs := by rw [List.length_map]; exact hw.2
    simp only [ghoB, Plc.loc, Option.bind_some, Loc.get, hm, get_mid hi, hc, List.take_of_length_le (Nat.le_of_eq hlen), mode_own, mapM_ofD]
    rw [if_pos ⟨hkd, hlen, hw.1, by simpa [Loc.notK] using hne⟩]
    simp only [Loc.set, hmk]
    rw [set_mid (by simpa using hi)]
  · show upd _ _ _ _ = _
    unfold upd
    rw [if_pos rfl]
  · show upd _ _ _ _ = _
    unfold upd
    rw [if_neg (fun e => hne e.symm)]
    show memKill (· == key) σ.mem key = _
    unfold memKill
    rw [if_pos (by simp)]
  · intro k h1 h2
    show upd _ _ _ _ = _
    unfold upd
    rw [if_neg h1]
    show memKill (· == key) σ.mem k = _
    unfold memKill
    rw [if_neg (by simpa using h2)]
theorem mapmap_kill (q1 q2 : Key → Bool) (cs : List C) : (cs.map (C.kill q1)).map (C.kill q2) = cs.map (C.kill fun k => q1 k || q2 k) := by
  rw [List.map_map]; exact List.map_congr_left fun x _ => kill_kill q1 q2 x
mutual
theorem frzD_ok {d : Nat} : ∀ (c : D) (p : List Nat) (i : Nat) (σ : St) (pre rest : List C), wfD c → pre.length = i → σ.mem (d, pk p) = some (pre ++ bxC d (p ++ [i]) c :: rest) → subD σ.mem d (p ++ [i]) c →
    ∃ (σ' : St) (q : Key → Bool), ghoLB d (frzD d (.mem (d, pk p) i) (p ++ [i]) c) σ = some σ' ∧ (∀ k, q k = true → ∃ r, k = (d, pk (p ++ i :: r))) ∧ (∀ t, σ'.env t = (σ.env t).kill q) ∧
      σ'.mem (d, pk p) = some (pre.map (C.kill q) ++ C.ofD .own c :: rest.map (C.kill q)) ∧ (∀ k, q k = true → σ'.mem k = none) ∧
      ∀ k, k ≠ (d, pk p) → q k = false → σ'.mem k = (σ.mem k).map (List.map (C.kill q))
  | .sc v, p, i, σ, pre, rest, _, hi, hm, _ => ⟨σ, fun _ => false, by rw [frzD]; rfl, fun k h => absurd h (by simp), fun t => by rw [AV.kill_none], by rw [map_kill_none, map_kill_none]; exact hm, fun k h => absurd h (by simp), fun k _ _ => by
      cases hk : σ.mem k with
      | none => rfl
      | some cs => rw [Option.map_some, map_kill_none]⟩
  | .sl n cs, p, i, σ, pre, rest, hw, hi, hm, hs => by
    rw [wfD] at hw
    rw [subD] at hs
    obtain ⟨σ1, q1, h1, hq1, he1, hp1, hn1, ho1⟩ := frzL_ok cs (p ++ [i]) 0 σ [] hw.2 rfl (by rw [hs.1]; rfl) hs.2
    have hq0 : q1 (d, pk p) = false := by
      cases hq : q1 (d, pk p) with
      | false => rfl
      | true => obtain ⟨j, r, _, e⟩ := hq1 _ hq; exact absurd (pk_inj (Prod.mk.inj e).2) (by simp)
    have hq2 : q1 (d, pk (p ++ [i])) = false := by
      cases hq : q1 (d, pk (p ++ [i])) with
      | false => rfl
      | true => obtain ⟨j, r, _, e⟩ := hq1 _ hq; exact absurd (pk_inj (Prod.mk.inj e).2) (by simp)
    have hm1 : σ1.mem (d, pk p) = some (pre.map (C.kill q1) ++ .bs (d, pk (p ++ [i])) n (szD n cs) :: rest.map (C.kill q1)) := by
      rw [ho1 _ (key_ne app_ne) hq0, hm, Option.map_some, List.map_append, List.map_cons, bxC_kill hq2]
      rfl
    obtain ⟨σ2, h2, he2, hp2, hn2, ho2⟩ := frz_one (d := d) (i := i) (n := n) (p := p) (by simpa using hi) hw.1 hm1 (by simpa using hp1)
    refine ⟨σ2, fun k => q1 k || k == (d, pk (p ++ [i])), by rw [frzD, ghoLB_app, h1, Option.bind_some, ghoLB, h2]; rfl, fun k hk => ?_, fun t => ?_, ?_, fun k hk => ?_, fun k hk1 hk2 => ?_⟩
    · simp only [Bool.or_eq_true, beq_iff_eq] at hk
      rcases hk with hk | hk
      · obtain ⟨j, r, _, e⟩ := hq1 k hk
        exact ⟨j :: r, by rw [e]; simp⟩
      · exact ⟨[], hk⟩
    · rw [he2, he1, akill_kill]
    · rw [hp2, mapmap_kill, mapmap_kill]
      rfl
    · simp only [Bool.or_eq_true, beq_iff_eq] at hk
      by_cases hk3 : k = (d, pk (p ++ [i]))
      · rw [hk3]; exact hn2
      · have hk4 := hk.resolve_right hk3
        rw [ho2 k (fun e => by rw [e] at hk4; rw [hq0] at hk4; cases hk4) hk3, hn1 k hk4]; rfl
    · simp only [Bool.or_eq_false_iff, beq_eq_false_iff_ne] at hk2
      rw [ho2 k hk1 hk2.2, ho1 k hk2.2 hk2.1]
      cases σ.mem k with
      | none => rfl
      | some c => simp only [Option.map_some, mapmap_kill]
theorem frzL_ok {d : Nat} : ∀ (cs : List D) (p : List Nat) (i : Nat) (σ : St) (pre : List C), wfL cs → pre.length = i → σ.mem (d, pk p) = some (pre ++ bxL d p i cs) → subL σ.mem d p i cs →
    ∃ (σ' : St) (q : Key → Bool), ghoLB d (frzL d p i cs) σ = some σ' ∧ (∀ k, q k = true → ∃ j r, i ≤ j ∧ k = (d, pk (p ++ j :: r))) ∧ (∀ t, σ'.env t = (σ.env t).kill q) ∧
      σ'.mem (d, pk p) = some (pre.map (C.kill q) ++ cs.map (C.ofD .own)) ∧ (∀ k, q k = true → σ'.mem k = none) ∧
      ∀ k, k ≠ (d, pk p) → q k = false → σ'.mem k = (σ.mem k).map (List.map (C.kill q))
  | [], p, i, σ, pre, _, hi, hm, _ => ⟨σ, fun _ => false, by rw [frzL]; rfl, fun k h => absurd h (by simp), fun t => by rw [AV.kill_none], by rw [map_kill_none]; exact hm, fun k h => absurd h (by simp), fun k _ _ => by
      cases hk : σ.mem k with
      | none => rfl
      | some cs => rw [Option.map_some, map_kill_none]⟩
  | c :: cs, p, i, σ, pre, hw, hi, hm, hs => by
    rw [wfL] at hw
    rw [subL] at hs
    obtain ⟨σ1, q1, h1, hq1, he1, hp1, hn1, ho1⟩ := frzD_ok c p i σ pre (bxL d p (i + 1) cs) hw.1 hi hm hs.1
    have hqt : ∀ j r, i + 1 ≤ j → q1 (d, pk (p ++ j :: r)) = false := fun j r hj => by
      cases hq : q1 (d, pk (p ++ j :: r)) with
      | false => rfl
      | true => obtain ⟨r', e⟩ := hq1 _ hq; exact absurd (pk_inj (Prod.mk.inj e).2) (fork_ne (by omega))
    have hq0 : q1 (d, pk p) = false := by
      cases hq : q1 (d, pk p) with
      | false => rfl
      | true => obtain ⟨r, e⟩ := hq1 _ hq; exact absurd (pk_inj (Prod.mk.inj e).2) app_ne
    obtain ⟨σ2, q2, h2, hq2, he2, hp2, hn2, ho2⟩ := frzL_ok cs p (i + 1) σ1 (pre.map (C.kill q1) ++ [C.ofD .own c]) hw.2 (by simp [hi])
      (by rw [hp1, bxL_kill fun j hj => hqt j [] hj]; simp)
      (subL_kill (fun j r hj => hqt j r hj) (fun j r hj => ho1 _ (key_ne fun e => app_ne e.symm) (hqt j r hj)) hs.2)
    refine ⟨σ2, fun k => q1 k || q2 k, by rw [frzL, ghoLB_app, h1, Option.bind_some, h2], fun k hk => ?_, fun t => ?_, ?_, fun k hk => ?_, fun k hk1 hk2 => ?_⟩
    · simp only [Bool.or_eq_true] at hk
      rcases hk with hk | hk
      · obtain ⟨r, e⟩ := hq1 k hk; exact ⟨i, r, Nat.le_refl _, e⟩
      · obtain ⟨j, r, hj, e⟩ := hq2 k hk; exact ⟨j, r, by omega, e⟩
    · rw [he2, he1, akill_kill]
    · rw [hp2, List.map_append, mapmap_kill, List.map_cons, List.map_nil, ofD_kill]; simp
    · simp only [Bool.or_eq_true] at hk
      cases hk2 : q2 k with
      | true => exact hn2 k hk2
      | false =>
        have hk1 := hk.resolve_right (by simp [hk2])
        rw [ho2 k (fun e => by rw [e] at hk1; rw [hq0] at hk1; cases hk1) hk2, hn1 k hk1]; rfl
    · simp only [Bool.or_eq_false_iff] at hk2
      rw [ho2 k hk1 hk2.2, ho1 k hk1 hk2.1]
      cases σ.mem k with
      | none => rfl
      | some c => simp only [Option.map_some, mapmap_kill]
end
end Go.Ev


namespace Go.Ev
def thawA (d t : Nat) : Nat → List D → List Gho
  | _, [] => []
  | i, c :: cs => thawD d (.sl t i) [i] c ++ thawA d t (i + 1) cs
def frzA (d t : Nat) : Nat → List D → List Gho
  | _, [] => []
  | i, c :: cs => frzD d (.sl t i) [i] c ++ frzA d t (i + 1) cs
def cellsOf : AV → List C
  | .one c => [c]
  | .ag cs => cs
  | .tu _ => []
end Go.Ev


namespace Go.Ev
mutual
theorem subD_uniq {m : Mem} {d : Nat} : ∀ {c c' : D} {p : List Nat}, bxC d p c = bxC d p c' → subD m d p c → subD m d p c' → c = c'
  | .sc v, .sc v', p, h, _, _ => by simp only [bxC, C.s.injEq] at h; rw [h]
  | .sc v, .sl n cs, p, h, _, _ => by simp [bxC] at h
  | .sl n cs, .sc v, p, h, _, _ => by simp [bxC] at h
  | .sl n cs, .sl n' cs', p, h, h1, h2 => by
    rw [subD] at h1 h2
    simp only [bxC, C.bs.injEq] at h
    have he : bxL d p 0 cs = bxL d p 0 cs' := Option.some.inj (h1.1.symm.trans h2.1)
    rw [subL_uniq he h1.2 h2.2, h.2.1]
theorem subL_uniq {m : Mem} {d : Nat} : ∀ {cs cs' : List D} {p : List Nat} {i : Nat}, bxL d p i cs = bxL d p i cs' → subL m d p i cs → subL m d p i cs' → cs = cs'
  | [], [], _, _, _, _, _ => rfl
  | [], _ :: _, _, _, h, _, _ => by simp [bxL] at h
  | _ :: _, [], _, _, h, _, _ => by simp [bxL] at h
  | c :: cs, c' :: cs', p, i, h, h1, h2 => by
    rw [bxL, bxL, List.cons.injEq] at h
    rw [subL] at h1 h2
    rw [subD_uniq h.1 h1.1 h2.1, subL_uniq h.2 h1.2 h2.2]
end
noncomputable def thawSlot (d x : Nat) : St → List Gho := fun σ => .calm :: (thawA d x 0 (((cellsOf (σ.env x)).mapM C.toD).getD []) ++ [.drop fun k => decide (d < k.1)])
open Classical in
noncomputable def frzSlot (d x : Nat) : St → List Gho := fun σ => if h : ∃ cs, wfL cs ∧ cellsOf (σ.env x) = bxL d [] 0 cs ∧ subL σ.mem d [] 0 cs then frzA d x 0 (Classical.choose h) ++ [.drop fun k => k.1 == d && decide (bigK ≤ k.2)] else []
theorem killB_killB (c : C) : c.killB.killB = c.killB := by
  cases c with
  | l m n cs => cases m <;> rfl
  | _ => rfl
theorem akillB_killB (v : AV) : v.killB.killB = v.killB := by
  cases v with
  | one c => simp only [AV.killB, killB_killB]
  | ag cs => simp only [AV.killB, List.map_map, Function.comp_def, killB_killB]
  | tu l => simp only [AV.killB, List.map_map, Function.comp_def, killB_killB]
theorem KB_killB (σ : St) : KB σ.killB := ⟨fun t => akillB_killB _, fun k cs hk c hc => by
  have hk' : (σ.mem k).map (List.map C.killB) = some cs := hk
  rw [Option.map_eq_some_iff] at hk'
  obtain ⟨cs0, _, rfl⟩ := hk'
  obtain ⟨y, _, rfl⟩ := List.mem_map.1 hc
  exact killB_killB y⟩
def deepQ (d : Nat) : Key → Bool := fun k => decide (d < k.1)
theorem memKill_idem (p : Key → Bool) (m : Mem) : memKill p (memKill p m) = memKill p m := by
  funext k
  unfold memKill
  cases hp : p k with
  | true => simp
  | false =>
    simp only [Bool.false_eq_true, if_false]
    cases m k with
    | none => rfl
    | some cs => simp only [Option.map_some, mapmap_kill, Bool.or_self]
structure MemR (mem0 mem : Mem) (d : Nat) (p : List Nat) (i n : Nat) : Prop where
  clo : ∀ q : Key → Bool, (∀ key : Key, key.1 = d → q key = false) → memKill q mem0 = mem0 → memKill q mem = mem
  far : ∀ key, (∀ j r, i ≤ j → j < i + n → key ≠ (d, pk (p ++ j :: r))) → mem key = mem0 key
def MarkOK (g : Cfg) (fn : Nat) (agg : Bool) (cs cs' : List D) (k k' : Int) : Prop :=
  (∀ d p i, bxL d p i cs' = bxL d p i cs) ∧ ∀ d d' p i mem, d ≤ d' → Tight d' mem → subL mem d p i cs →
    ∃ mem', callo g d' fn [avC agg (bxL d p i cs), .one (.s (.int .i64 k))] mem = some (.one (.s (.int .i64 k')), mem') ∧ MemR mem mem' d p i cs.length ∧ subL mem' d p i cs'
theorem bxC_copy (d : Nat) (p : List Nat) (c : D) : (bxC d p c).copy = bxC d p c := by cases c <;> rfl
theorem bxL_copy (d : Nat) (p : List Nat) : ∀ (cs : List D) (i : Nat), (bxL d p i cs).map C.copy = bxL d p i cs
  | [], _ => rfl
  | c :: cs, i => by rw [bxL, List.map_cons, bxC_copy, bxL_copy d p cs (i + 1)]
end Go.Ev


namespace Go.Ev
def thawX (d b : Nat) : Nat → List D → List Gho
  | _, [] => []
  | i, c :: cs => thawD d (.mem (d, b) i) [i] c ++ thawX d b (i + 1) cs
def frzX (d b : Nat) : Nat → List D → List Gho
  | _, [] => []
  | i, c :: cs => frzD d (.mem (d, b) i) [i] c ++ frzX d b (i + 1) cs
theorem low_ne {d b : Nat} (hb : b < bigK) (p : List Nat) : ((d, b) : Key) ≠ (d, pk p) := fun e => by
  have := pk_ge p
  have := (Prod.mk.inj e).2
  omega
theorem thaw_box1 {d b i n : Nat} (hb : b < bigK) {σ : St} {pre rest : List C} {cs : List D} (hK : KB σ) (hi : pre.length = i) (hw : 0 < szD n cs ∧ cs.length = n * szD n cs)
    (hm : σ.mem (d, b) = some (pre ++ .l .own n cs :: rest)) (hf : σ.mem (d, pk [i]) = none) :
    ∃ σ1, ghoB d σ (.thaw (.mem (d, b) i) (pk [i]) (szD n cs)) = some σ1 ∧ KB σ1 ∧ σ1.env = σ.env ∧ σ1.mem (d, b) = some (pre ++ .bs (d, pk [i]) n (szD n cs) :: rest) ∧
      σ1.mem (d, pk [i]) = some (cs.map (C.ofD .own)) ∧ ∀ k, k ≠ (d, b) → k ≠ (d, pk [i]) → σ1.mem k = σ.mem k := by
  have hne := low_ne (d := d) hb [i]
  refine ⟨{ σ with mem := upd (upd σ.mem (d, b) (some (pre ++ .bs (d, pk [i]) n (szD n cs) :: rest))) (d, pk [i]) (some (cs.map (C.ofD .own))) }, ?_, ?_, rfl, ?_, ?_, ?_⟩
  · simp only [ghoB, Plc.loc, Option.bind_some, Loc.get, hm, get_mid hi, Loc.own?, hf]
    rw [if_pos (by simp [hw.1]; exact hw.2)]
    rw [hK.eq]
    simp only [Loc.set, hm, set_mid hi, Md.elem]
  · refine hK.put fun k c hk => ?_
    have hk' : upd (upd σ.mem (d, b) (some (pre ++ .bs (d, pk [i]) n (szD n cs) :: rest))) (d, pk [i]) (some (cs.map (C.ofD .own))) k = some c := hk
    unfold upd at hk'
    split at hk'
    · cases hk'
      refine .inr fun x hx => ?_
      obtain ⟨y, _, rfl⟩ := List.mem_map.1 hx
      exact ofD_killB y
    · split at hk'
      · cases hk'
        refine .inr fun x hx => ?_
        rcases List.mem_append.1 hx with hx | hx
        · exact hK.mem _ _ hm x (List.mem_append.2 (.inl hx))
        · rcases List.mem_cons.1 hx with rfl | hx
          · rfl
          · exact hK.mem _ _ hm x (List.mem_append.2 (.inr (List.mem_cons_of_mem _ hx)))
      · exact .inl hk'
  · show upd (upd _ _ _) _ _ _ = _
    unfold upd
    rw [if_neg hne, if_pos rfl]
  · show upd (upd _ _ _) _ _ _ = _
    unfold upd
    rw [if_pos rfl]
  · intro k h1 h2
    show upd (upd _ _ _) _ _ _ = _
    unfold upd
    rw [if_neg h2, if_neg h1]
theorem thawX_ok {d b : Nat} (hb : b < bigK) : ∀ (cs : List D) (i : Nat) (σ : St) (pre : List C), KB σ → wfL cs → pre.length = i → σ.mem (d, b) = some (pre ++ cs.map (C.ofD .own)) → (∀ j q, i ≤ j → σ.mem (d, pk (j :: q)) = none) →
    ∃ σ', ghoLB d (thawX d b i cs) σ = some σ' ∧ KB σ' ∧ σ'.env = σ.env ∧ σ'.mem (d, b) = some (pre ++ bxL d [] i cs) ∧ subL σ'.mem d [] i cs ∧
      ∀ k, k ≠ (d, b) → (∀ j q, i ≤ j → k ≠ (d, pk (j :: q))) → σ'.mem k = σ.mem k
  | [], i, σ, pre, hK, _, _, hm, _ => ⟨σ, rfl, hK, rfl, hm, by rw [subL]; trivial, fun _ _ _ => rfl⟩
  | .sc x :: cs, i, σ, pre, hK, hw, hi, hm, hf => by
    rw [wfL] at hw
    obtain ⟨σ2, h2, hK2, he2, hc2, hsub, ho⟩ := thawX_ok hb cs (i + 1) σ (pre ++ [.s x]) hK hw.2 (by simp [hi]) (by rw [hm]; simp [C.ofD]) (fun j q hj => hf j q (by omega))
    exact ⟨σ2, by rw [thawX, thawD]; exact h2, hK2, he2, by rw [hc2, bxL]; simp [bxC], by rw [subL, subD]; exact ⟨trivial, hsub⟩, fun k hk0 hk => ho k hk0 fun j q hj => hk j q (by omega)⟩
  | .sl n ds :: cs, i, σ, pre, hK, hw, hi, hm, hf => by
    rw [wfL, wfD] at hw
    obtain ⟨σ1, h1, hK1, he1, hc1, hb1, ho1⟩ := thaw_box1 (d := d) hb hK hi hw.1.1 hm (hf i [] (Nat.le_refl _))
    obtain ⟨σ2, h2, hK2, he2, hp2, hsub2, ho2⟩ := thawL_ok (d := d) ds [i] 0 σ1 [] hK1 hw.1.2 rfl hb1 (fun j q _ => by rw [ho1 _ (low_ne hb _).symm (key_ne (by simp))]; exact hf i (j :: q) (Nat.le_refl _))
    obtain ⟨σ3, h3, hK3, he3, hc3, hsub3, ho3⟩ := thawX_ok hb cs (i + 1) σ2 (pre ++ [.bs (d, pk [i]) n (szD n ds)]) hK2 hw.2 (by simp [hi])
      (by rw [ho2 _ (low_ne hb _) (fun _ _ _ => low_ne hb _), hc1]; simp) (fun j q hj => by
      rw [ho2 _ (key_ne (by simp; omega)) (fun j' q' _ => key_ne (by simp; omega)), ho1 _ (low_ne hb _).symm (key_ne (by simp; omega))]
      exact hf j q (by omega))
    refine ⟨σ3, ?_, hK3, by rw [he3, he2, he1], by rw [hc3, bxL]; simp [bxC], ?_, fun k hk0 hk => ?_⟩
    · rw [thawX, thawD, List.cons_append, ghoLB, h1, Option.bind_some, ghoLB_app, h2, Option.bind_some, h3]
    · rw [subL, subD]
      refine ⟨⟨?_, subL_congr (fun j q _ => ?_) hsub2⟩, hsub3⟩
      · rw [List.nil_append, ho3 _ (low_ne hb _).symm (fun j q hj => key_ne (by simp; omega)), hp2]; rfl
      · exact ho3 _ (low_ne hb _).symm (fun j' q' hj => key_ne (by simp; omega))
    · rw [ho3 k hk0 (fun j q hj => hk j q (by omega)), ho2 k (by have := hk i [] (Nat.le_refl _); simpa using this) (fun j q _ => by have := hk i (j :: q) (Nat.le_refl _); simpa using this), ho1 k hk0 (hk i [] (Nat.le_refl _))]
theorem frz_box1 {d b i n : Nat} (hb : b < bigK) {σ : St} {pre rest : List C} {cs : List D} (hi : pre.length = i) (hw : 0 < szD n cs ∧ cs.length = n * szD n cs)
    (hm : σ.mem (d, b) = some (pre ++ .bs (d, pk [i]) n (szD n cs) :: rest)) (hc : σ.mem (d, pk [i]) = some (cs.map (C.ofD .own))) :
    ∃ σ1, ghoB d σ (.frz (.mem (d, b) i)) = some σ1 ∧ (∀ t, σ1.env t = (σ.env t).kill (· == (d, pk [i]))) ∧
      σ1.mem (d, b) = some (pre.map (C.kill (· == (d, pk [i]))) ++ .l .own n cs :: rest.map (C.kill (· == (d, pk [i])))) ∧ σ1.mem (d, pk [i]) = none ∧
      ∀ k, k ≠ (d, b) → k ≠ (d, pk [i]) → σ1.mem k = (σ.mem k).map (List.map (C.kill (· == (d, pk [i])))) := by
  have hne := low_ne (d := d) hb [i]
  generalize hkey : ((d, pk [i]) : Key) = key at *
  have hkd : key.1 = d := by rw [← hkey]
  have hmk : (σ.killK key).mem (d, b) = some (pre.map (C.kill (· == key)) ++ .dead :: rest.map (C.kill (· == key))) := by
    show memKill (· == key) σ.mem (d, b) = _
    unfold memKill
    rw [if_neg (by simpa using hne), hm]
    simp [C.kill]
  refine ⟨{ σ.killK key with mem := upd (σ.killK key).mem (d, b) (some (pre.map (C.kill (· == key)) ++ .l .own n cs :: rest.map (C.kill (· == key)))) }, ?_, fun t => rfl, ?_, ?_, ?_⟩
  · have hlen : (cs.map (C.ofD .own)).length = n * szD n cs := by rw [List.length_map]; exact hw.2
    simp only [ghoB, Plc.loc, Option.bind_some, Loc.get, hm, get_mid hi, hc, List.take_of_length_le (Nat.le_of_eq hlen), mode_own, mapM_ofD]
    rw [if_pos ⟨hkd, hlen, hw.1, by simpa [Loc.notK] using hne⟩]
    simp only [Loc.set, hmk]
    rw [set_mid (by simpa using hi)]
  · show upd _ _ _ _ = _
    unfold upd
    rw [if_pos rfl]
  · show upd _ _ _ _ = _
    unfold upd
    rw [if_neg (fun e => hne e.symm)]
    show memKill (· == key) σ.mem key = _
    unfold memKill
    rw [if_pos (by simp)]
  · intro k h1 h2
    show upd _ _ _ _ = _
    unfold upd
    rw [if_neg h1]
    show memKill (· == key) σ.mem k = _
    unfold memKill
    rw [if_neg (by simpa using h2)]
theorem frzX_ok {d b : Nat} (hb : b < bigK) : ∀ (cs : List D) (i : Nat) (σ : St) (pre : List C), wfL cs → pre.length = i → σ.mem (d, b) = some (pre ++ bxL d [] i cs) → subL σ.mem d [] i cs →
    ∃ (σ' : St) (q : Key → Bool), ghoLB d (frzX d b i cs) σ = some σ' ∧ (∀ k, q k = true → ∃ j r, i ≤ j ∧ k = (d, pk (j :: r))) ∧ (∀ t, σ'.env t = (σ.env t).kill q) ∧
      σ'.mem (d, b) = some (pre.map (C.kill q) ++ cs.map (C.ofD .own)) ∧ (∀ k, q k = true → σ'.mem k = none) ∧ ∀ k, k ≠ (d, b) → q k = false → σ'.mem k = (σ.mem k).map (List.map (C.kill q))
  | [], i, σ, pre, _, hi, hm, _ => ⟨σ, fun _ => false, rfl, fun k h => absurd h (by simp), fun t => by rw [AV.kill_none], by rw [map_kill_none]; exact hm, fun k h => absurd h (by simp), fun k _ _ => by
      cases hk : σ.mem k with
      | none => rfl
      | some cs => rw [Option.map_some, map_kill_none]⟩
  | .sc x :: cs, i, σ, pre, hw, hi, hm, hs => by
    rw [wfL] at hw
    rw [subL] at hs
    obtain ⟨σ2, q, h2, hq, he2, hc2, hn2, ho2⟩ := frzX_ok (d := d) hb cs (i + 1) σ (pre ++ [.s x]) hw.2 (by simp [hi]) (by rw [hm, bxL]; simp [bxC]) hs.2
    exact ⟨σ2, q, by rw [frzX, frzD]; exact h2, fun k hk => by obtain ⟨j, r, hj, e⟩ := hq k hk; exact ⟨j, r, by omega, e⟩, he2, by rw [hc2]; simp [C.kill, C.ofD], hn2, ho2⟩
  | .sl n ds :: cs, i, σ, pre, hw, hi, hm, hs => by
    rw [wfL, wfD] at hw
    rw [subL, subD, List.nil_append] at hs
    obtain ⟨σ1, q1, h1, hq1, he1, hp1, hn1, ho1⟩ := frzL_ok (d := d) ds [i] 0 σ [] hw.1.2 rfl (by rw [hs.1.1]; rfl) hs.1.2
    have hq0 : ∀ j r, i + 1 ≤ j → q1 (d, pk (j :: r)) = false := fun j r hj => by
      cases hq : q1 (d, pk (j :: r)) with
      | false => rfl
      | true =>
        obtain ⟨j', r', _, e⟩ := hq1 _ hq
        have := pk_inj (Prod.mk.inj e).2
        simp at this
        omega
    have hqi : q1 (d, pk [i]) = false := by
      cases hq : q1 (d, pk [i]) with
      | false => rfl
      | true =>
        obtain ⟨j', r', _, e⟩ := hq1 _ hq
        have := pk_inj (Prod.mk.inj e).2
        simp at this
    have hqb : q1 (d, b) = false := by
      cases hq : q1 (d, b) with
      | false => rfl
      | true => obtain ⟨j', r', _, e⟩ := hq1 _ hq; exact absurd e (low_ne hb _)
    have hm1 : σ1.mem (d, b) = some (pre.map (C.kill q1) ++ .bs (d, pk [i]) n (szD n ds) :: bxL d [] (i + 1) cs) := by
      rw [ho1 _ (low_ne hb _) hqb, hm, bxL, Option.map_some, List.map_append, List.map_cons, List.nil_append, bxC_kill hqi, bxL_kill fun j hj => hq0 j [] hj]
      rfl
    obtain ⟨σ2, h2, he2, hc2, hn2, ho2⟩ := frz_box1 (d := d) (b := b) hb (i := i) (n := n) (by simpa using hi) hw.1.1 hm1 (by simpa using hp1)
    have hqk : ∀ j r, i + 1 ≤ j → ((d, pk (j :: r)) == ((d, pk [i]) : Key)) = false := fun j r hj => by
      rw [beq_eq_false_iff_ne]
      exact key_ne (by simp; omega)
    obtain ⟨σ3, q3, h3, hq3, he3, hc3, hn3, ho3⟩ := frzX_ok (d := d) hb cs (i + 1) σ2 ((pre.map (C.kill q1)).map (C.kill (· == (d, pk [i]))) ++ [.l .own n ds]) hw.2 (by simp [hi])
      (by rw [hc2, bxL_kill fun j hj => by simpa using hqk j [] hj]; simp)
      (subL_kill (q := (· == (d, pk [i]))) (fun j r hj => hqk j r hj) (fun j r hj => ho2 _ (low_ne hb _).symm (key_ne (by simp; omega)))
        (subL_kill (q := q1) (fun j r hj => hq0 j r hj) (fun j r hj => ho1 _ (key_ne (by simp; omega)) (hq0 j r hj)) hs.2))
    refine ⟨σ3, fun k => (q1 k || k == (d, pk [i])) || q3 k, ?_, fun k hk => ?_, fun t => ?_, ?_, fun k hk => ?_, fun k hk0 hk => ?_⟩
    · rw [frzX, frzD, ghoLB_app, ghoLB_app, h1, Option.bind_some, ghoLB, h2]
      exact h3
    · simp only [Bool.or_eq_true, beq_iff_eq] at hk
      rcases hk with (hk | hk) | hk
      · obtain ⟨j, r, _, e⟩ := hq1 k hk; exact ⟨i, j :: r, Nat.le_refl _, by rw [e]; rfl⟩
      · exact ⟨i, [], Nat.le_refl _, hk⟩
      · obtain ⟨j, r, hj, e⟩ := hq3 k hk; exact ⟨j, r, by omega, e⟩
    · rw [he3 t, he2 t, he1, akill_kill, akill_kill]
      congr 1
      funext k
      rw [Bool.or_assoc]
    · rw [hc3, List.map_append, mapmap_kill, mapmap_kill, List.map_cons, List.map_nil, List.append_assoc]
      simp only [Bool.or_assoc]
      rfl
    · simp only [Bool.or_eq_true, beq_iff_eq] at hk
      have hkb : k ≠ (d, b) := by
        rintro rfl
        rcases hk with (hk | hk) | hk
        · rw [hqb] at hk; cases hk
        · exact absurd hk (low_ne hb _)
        · obtain ⟨j, r, _, e⟩ := hq3 _ hk; exact absurd e (low_ne hb _)
      cases hk3 : q3 k with
      | true => exact hn3 k hk3
      | false =>
        rw [ho3 k hkb hk3]
        rcases hk.resolve_right (by simp [hk3]) with hk1 | hk1
        · by_cases hki : k = (d, pk [i])
          · rw [hki, hn2]; rfl
          · rw [ho2 k hkb hki, hn1 k hk1]; rfl
        · rw [hk1, hn2]; rfl
    · simp only [Bool.or_eq_false_iff, beq_eq_false_iff_ne] at hk
      rw [ho3 k hk0 hk.2, ho2 k hk0 hk.1.2, ho1 k (by simpa using hk.1.2) hk.1.1]
      cases σ.mem k with
      | none => rfl
      | some c => simp only [Option.map_some, mapmap_kill]
noncomputable def thawBox (d b : Nat) : St → List Gho := fun σ => .calm :: (thawX d b 0 ((((σ.mem (d, b)).getD []).mapM C.toD).getD []) ++ [.drop fun k => decide (d < k.1)])
open Classical in
noncomputable def frzBox (d b : Nat) : St → List Gho := fun σ => if h : ∃ cs, wfL cs ∧ σ.mem (d, b) = some (bxL d [] 0 cs) ∧ subL σ.mem d [] 0 cs then frzX d b 0 (Classical.choose h) ++ [.drop fun k => k.1 == d && decide (bigK ≤ k.2)] else []
theorem thawBox_ok {d b : Nat} (hb : b < bigK) {σ : St} {cs : List D} (hc : σ.mem (d, b) = some (cs.map (C.ofD .own))) (hw : wfL cs) (hN : ∀ k : Key, bigK ≤ k.2 → σ.mem k = none) :
    ∃ σ1, ghoLB d (thawBox d b σ) σ = some σ1 ∧ σ1.mem (d, b) = some (bxL d [] 0 cs) ∧ (∀ t, σ1.env t = ((σ.env t).killB).kill (deepQ d)) ∧ subL σ1.mem d [] 0 cs ∧ memKill (deepQ d) σ1.mem = σ1.mem ∧
      (∀ k, k ≠ (d, b) → (∀ j q, k ≠ (d, pk (j :: q))) → σ1.mem k = memKill (deepQ d) (fun k => (σ.mem k).map (List.map C.killB)) k) := by
  have hcells : (((σ.mem (d, b)).getD []).mapM C.toD).getD [] = cs := by rw [hc, Option.getD_some, mapM_ofD]; rfl
  have hkb : σ.killB.mem (d, b) = some ([] ++ cs.map (C.ofD .own)) := by
    show (σ.mem (d, b)).map _ = _
    rw [hc, Option.map_some, List.map_map, List.nil_append]
    congr 1
    exact List.map_congr_left fun y _ => ofD_killB y
  obtain ⟨σ1, h1, _, he1, hc1, hsub, ho⟩ := thawX_ok (d := d) hb cs 0 σ.killB [] (KB_killB σ) hw rfl hkb
    (fun j q _ => by
      show (σ.mem _).map _ = none
      rw [hN _ (pk_ge _)]
      rfl)
  have hpq : (fun k : Key => decide (d ≤ k.1) && decide (d < k.1)) = deepQ d := by
    funext k
    unfold deepQ
    by_cases h : d < k.1
    · simp [h]; omega
    · simp [h]
  have hkd : ∀ p : Nat, deepQ d (d, p) = false := fun p => by simp [deepQ]
  refine ⟨{ env := fun t => (σ1.env t).kill (deepQ d), mem := memKill (deepQ d) σ1.mem }, ?_, ?_, fun t => ?_, ?_, memKill_idem _ _, fun k hk0 hk => ?_⟩
  · unfold thawBox
    rw [hcells, ghoLB]
    show ghoLB d _ σ.killB = _
    rw [ghoLB_app, h1, Option.bind_some, ghoLB]
    show (ghoB d σ1 _).bind _ = _
    simp only [ghoB, hpq]
    rfl
  · show memKill (deepQ d) σ1.mem (d, b) = _
    unfold memKill
    rw [if_neg (by simp [hkd]), hc1, Option.map_some, List.nil_append, bxL_kill fun j _ => hkd _]
  · show (σ1.env t).kill _ = _
    rw [he1]
    rfl
  · exact subL_kill (q := deepQ d) (fun j r _ => hkd _) (fun j r _ => by
      show memKill (deepQ d) σ1.mem _ = _
      unfold memKill
      rw [if_neg (by simp [hkd])]) hsub
  · show memKill (deepQ d) σ1.mem k = _
    unfold memKill
    rw [ho k hk0 fun j q _ => hk j q]
    rfl
theorem frzBox_ok {d b : Nat} (hb : b < bigK) {σ : St} {cs : List D} (hc : σ.mem (d, b) = some (bxL d [] 0 cs)) (hw : wfL cs) (hs : subL σ.mem d [] 0 cs) :
    ∃ (σ' : St) (q : Key → Bool), ghoLB d (frzBox d b σ) σ = some σ' ∧ (∀ k, q k = true → bigK ≤ k.2) ∧ σ'.mem (d, b) = some (cs.map (C.ofD .own)) ∧
      (∀ t, σ'.env t = (σ.env t).kill q) ∧ (∀ k : Key, k.1 = d → bigK ≤ k.2 → σ'.mem k = none) ∧ (∀ k, q k = true → σ'.mem k = none) ∧ ∀ k, k ≠ (d, b) → q k = false → σ'.mem k = (σ.mem k).map (List.map (C.kill q)) := by
  have h : ∃ cs, wfL cs ∧ σ.mem (d, b) = some (bxL d [] 0 cs) ∧ subL σ.mem d [] 0 cs := ⟨cs, hw, hc, hs⟩
  have hun : Classical.choose h = cs := by
    have hsp := (Classical.choose_spec h).2
    exact (subL_uniq (Option.some.inj (hc.symm.trans hsp.1)) hs hsp.2).symm
  obtain ⟨σ', q, h1, hq, he, hc', hn, ho⟩ := frzX_ok (d := d) hb cs 0 σ [] hw rfl hc hs
  have hqb : ∀ k, q k = true → k.1 = d ∧ bigK ≤ k.2 := fun k hk => by
    obtain ⟨j, r, _, e⟩ := hq k hk
    rw [e]
    exact ⟨rfl, pk_ge _⟩
  let p : Key → Bool := fun k => k.1 == d && decide (bigK ≤ k.2)
  have hqp : (fun k => q k || p k) = p := by
    funext k
    cases hqk : q k with
    | false => rfl
    | true =>
      obtain ⟨a, b⟩ := hqb k hqk
      simp [p, a, b]
  refine ⟨{ env := fun t => (σ'.env t).kill p, mem := memKill p σ'.mem }, p, ?_, fun k hk => ?_, ?_, fun t' => ?_, fun k hk1 hk2 => ?_, fun k hk => ?_, fun k hk0 hk => ?_⟩
  · unfold frzBox
    rw [dif_pos h, hun, ghoLB_app, h1, Option.bind_some, ghoLB]
    have hpq : (fun k : Key => decide (d ≤ k.1) && (k.1 == d && decide (bigK ≤ k.2))) = p := by
      funext k
      simp only [p]
      by_cases h : k.1 = d
      · simp [h]
      · simp [h]
    simp only [ghoB, hpq]
    rfl
  · simp only [p, Bool.and_eq_true, decide_eq_true_eq] at hk
    exact hk.2
  · show memKill p σ'.mem (d, b) = _
    unfold memKill
    rw [if_neg (by simp [p]; omega), hc', Option.map_some, List.map_nil, List.nil_append, ofDs_kill]
  · show (σ'.env t').kill p = _
    rw [he t', akill_kill, hqp]
  · show memKill p σ'.mem k = none
    unfold memKill
    rw [if_pos (by simp [p, hk1, hk2])]
  · show memKill p σ'.mem k = none
    unfold memKill
    rw [if_pos hk]
  · show memKill p σ'.mem k = _
    unfold memKill
    rw [if_neg (by simp [hk])]
    have hqk : q k = false := by
      cases hqk : q k with
      | false => rfl
      | true =>
        obtain ⟨a, b⟩ := hqb k hqk
        simp [p, a, b] at hk
    rw [ho k hk0 hqk]
    cases σ.mem k with
    | none => rfl
    | some c => simp only [Option.map_some, mapmap_kill, hqp]
theorem goal_markB {g : Cfg} {d f : Nat} {T : Option Out → Prop} {K : List It} {σ : St} (b x kk t2 t3 t4 fn : Nat) {tt ty1 ty2 ty3 ty4 : TypeId} {p1 p2 p3 p4 : String} {a1 a2 a3 a4 : Array Edge} {as : Array TypeId} {i : TI} {cs cs' : List D} {k k' : Int}
    (hM : MarkOK g fn true cs cs' k k') (hti : ti g.P tt = some i) (hsz : i.size = cs.length) (hag : i.agg = true) (hb : b < bigK) (hx : σ.env x = .one (.ptr (d, b) 0)) (hc : σ.mem (d, b) = some (cs.map (C.ofD .own))) (hk : σ.env kk = .one (.s (.int .i64 k))) (hw : wfL cs) (hw' : wfL cs') (hN : ∀ key : Key, bigK ≤ key.2 → σ.mem key = none)
    (hro : isRo g f (some t4) = false) (htk' : g.tk f (some t2) = false ∧ ∀ key, awayB g d f (some t2) key = false) (htk3 : g.tk f (some t3) = false) (hctx : lookN fn g.ctx = none) (hne : x ≠ kk ∧ x ≠ t2 ∧ x ≠ t3 ∧ x ≠ t4 ∧ kk ≠ t2 ∧ t2 ≠ t3)
    (next : ∀ (σ' : St) (q : Key → Bool), (∀ key : Key, key.1 ≤ d → key.2 < bigK → q key = false) → σ'.mem (d, b) = some (cs'.map (C.ofD .own)) → σ'.env kk = .one (.s (.int .i64 k')) →
      (∀ t, t ≠ kk → t ≠ t2 → t ≠ t3 → t ≠ t4 → σ'.env t = ((σ.env t).killB).kill q) → (∀ key : Key, d < key.1 ∨ bigK ≤ key.2 → σ'.mem key = none) →
      (∀ key : Key, key ≠ (d, b) → key.1 ≤ d → key.2 < bigK → σ'.mem key = (σ.mem key).map (List.map fun c => (c.killB).kill q)) → Goal T (runK g d f K (.norm σ'))) :
    Goal T (ghoMK g d f (thawBox d b) [] #[{ dst := some t2, op := .load tt (.tmp x), type := ty1, pos := p1, after := a1, guard := none }, { dst := some t3, op := .move (.tmp kk), type := ty2, pos := p2, after := a2, guard := none },
      { dst := some t4, op := .call { callee := .value (.func fn), args := #[.tmp t2, .tmp t3], argTypes := as }, type := ty3, pos := p3, after := a3, guard := none },
      { dst := some kk, op := .assign (.tmp t4), type := ty4, pos := p4, after := a4, guard := none }] (.gho [.many (frzBox d b)] :: K) σ) := by
  obtain ⟨n1, n2, n3, n4, n5, n6⟩ := hne
  obtain ⟨htk, haw⟩ := htk'
  obtain ⟨σ1, h1, hc1, ht1, hsub1, hdp1, ho1⟩ := thawBox_ok (d := d) hb hc hw hN
  obtain ⟨hsh, hcall⟩ := hM
  obtain ⟨mem', hcl2, ⟨_, hfr⟩, hsub2⟩ := hcall d d [] 0 σ1.mem (Nat.le_refl _) hdp1 hsub1
  have hkk1 : σ1.env kk = .one (.s (.int .i64 k)) := by rw [ht1 kk, hk]; rfl
  have hx1 : σ1.env x = .one (.ptr (d, b) 0) := by rw [ht1 x, hx]; simp [AV.killB, C.killB, AV.kill, C.kill, deepQ]
  have hseg : seg (bxL d [] 0 cs) 0 i.size = some (bxL d [] 0 cs) := by
    unfold seg
    rw [hsz, if_pos (by rw [bxL_length]; omega), List.drop_zero, List.take_of_length_le (by rw [bxL_length]; omega)]
  have hdead : (bxL d [] 0 cs).all (fun c => !c.isDead) = true := by
    rw [List.all_eq_true]
    have : ∀ (cs : List D) (i : Nat), ∀ c ∈ bxL d [] i cs, (!c.isDead) = true := by
      intro cs
      induction cs with
      | nil => intro i c hc; simp [bxL] at hc
      | cons y cs ih =>
        intro i c hc
        rw [bxL] at hc
        rcases List.mem_cons.1 hc with rfl | hc
        · cases y <;> rfl
        · exact ih (i + 1) c hc
    exact this cs 0
  have hld : opE g d f { dst := some t2, op := .load tt (.tmp x), type := ty1, pos := p1, after := a1, guard := none } σ1 = some (.ag (bxL d [] 0 cs), σ1) := by
    simp only [opE, hti, opnd, hx1, hc1, hseg, htk, haw, hdead, hag, mkAV, bind, Option.bind_some, bxL_copy]
    rfl
  unfold ghoMK
  rw [h1, Option.bind_some, ghoK_nil]
  simp only [o_cons, wants, g_true, s_load, hld, putK_some]
  simp only [o_cons, wants, g_true, s_move _ _ _ _ _ _ _ _ _ _ htk3, putD, opnd]
  have hkm : upd σ1.env t2 (.ag (bxL d [] 0 cs)) kk = .one (.s (.int .i64 k)) := by unfold upd; rw [if_neg n5]; exact hkk1
  rw [hkm]
  simp only [AV.copy, C.copy]
  have hcopy : ∀ env : Nat → AV, env t2 = .ag (bxL d [] 0 cs) → env t3 = .one (.s (.int .i64 k)) → (#[Operand.tmp t2, .tmp t3].toList.map fun y => (opnd env y).copy) = [avC true (bxL d [] 0 cs), .one (.s (.int .i64 k))] := by
    intro env e2 e3
    show [(env t2).copy, (env t3).copy] = _
    rw [e2, e3]
    show [AV.ag ((bxL d [] 0 cs).map C.copy), _] = _
    rw [bxL_copy]
    rfl
  rw [s_callF (hro := hro), hctx, callX_none, hcopy _ (by simp [upd, n6]) (by simp [upd]), hcl2, retK_some]
  simp only [o_cons, wants, g_true, s_assign, putD, opnd, kil, o_nil, r_ghoM]
  unfold ghoMR
  generalize henv : (upd (upd (upd (upd (upd σ1.env t2 (AV.ag (bxL d [] 0 cs))) t3 (AV.one (C.s (Value.int IntKind.i64 k)))) t4 (AV.one (C.s (Value.int IntKind.i64 k')))) t4 AV.dead) kk (upd (upd (upd σ1.env t2 (AV.ag (bxL d [] 0 cs))) t3 (AV.one (C.s (Value.int IntKind.i64 k)))) t4 (AV.one (C.s (Value.int IntKind.i64 k'))) t4)) = env2
  have hek : env2 kk = .one (.s (.int .i64 k')) := by
    rw [← henv]
    simp only [upd, if_true]
  have het : ∀ t, t ≠ kk → t ≠ t2 → t ≠ t3 → t ≠ t4 → env2 t = ((σ.env t).killB).kill (deepQ d) := by
    intro t h1 h2 h3 h4
    rw [← henv]
    simp only [upd, h1, h2, h3, h4, if_false]
    exact ht1 t
  have hmb : mem' (d, b) = some (bxL d [] 0 cs') := by
    rw [hfr _ fun j r _ _ => by rw [List.nil_append]; exact low_ne hb _, hc1, hsh]
  obtain ⟨σ3, q, h3, hq, hc3, ht3, hw3, hn3, ho3⟩ := frzBox_ok (d := d) (b := b) hb (σ := { env := env2, mem := mem' }) (cs := cs') hmb hw' hsub2
  rw [h3, Option.bind_some, ghoL, Option.bind_some]
  have hfar : ∀ key : Key, key ≠ (d, b) → (∀ j r, key ≠ (d, pk (j :: r))) → mem' key = memKill (deepQ d) (fun k => (σ.mem k).map (List.map C.killB)) key := fun key hk0 hkey => by
    rw [hfr key fun j r _ _ => by rw [List.nil_append]; exact hkey j r, ho1 key hk0 hkey]
  have hds : ∀ key : Key, key.1 ≤ d → deepQ d key = false := fun key hkey => by simp [deepQ]; omega
  have hqs : ∀ key : Key, key.1 ≤ d → key.2 < bigK → (deepQ d key || q key) = false := fun key hkd hkey => by
    rw [hds key hkd, Bool.false_or]
    cases hqk : q key with
    | false => rfl
    | true => have := hq key hqk; omega
  have hmem' : ∀ key : Key, key ≠ (d, b) → key.1 ≤ d → key.2 < bigK → mem' key = (σ.mem key).map (List.map fun c => (c.killB).kill (deepQ d)) := fun key hk0 hkd hkey => by
    rw [hfar key hk0 fun j r e => by
      have := pk_ge (j :: r)
      rw [e] at hkey
      simp only at hkey
      omega]
    unfold memKill
    rw [if_neg (by simp [hds key hkd])]
    show ((σ.mem key).map (List.map C.killB)).map (List.map (C.kill (deepQ d))) = _
    cases σ.mem key with
    | none => rfl
    | some c => simp only [Option.map_some, List.map_map, Function.comp_def]
  refine next σ3 (fun key => deepQ d key || q key) hqs hc3 ?_ (fun t a2 a3 a4 a5 => ?_) (fun key hkey => ?_) (fun key hk0 hkd hkey => ?_)
  · rw [ht3 kk]
    show (env2 kk).kill q = _
    rw [hek]; rfl
  · rw [ht3 t]
    show (env2 t).kill q = _
    rw [het t a2 a3 a4 a5, akill_kill]
  · have hkb : key ≠ (d, b) := by rintro rfl; simp only at hkey; omega
    cases hqk : q key with
    | true => exact hn3 key hqk
    | false =>
      rw [ho3 key hkb hqk]
      show (mem' key).map _ = none
      by_cases hdl : d < key.1
      · rw [hfar key hkb (fun j r e => by rw [e] at hdl; simp only at hdl; omega)]
        unfold memKill
        rw [if_pos (by simp [deepQ, hdl])]
        rfl
      have hkey := hkey.resolve_left hdl
      by_cases hd : key.1 = d
      · have := hw3 key hd hkey
        rw [ho3 key hkb hqk] at this
        exact this
      · rw [hfar key hkb (fun j r e => hd (by rw [e]))]
        unfold memKill
        show (if deepQ d key = true then none else ((σ.mem key).map (List.map C.killB)).map (List.map (C.kill (deepQ d)))).map _ = none
        rw [hN key hkey]
        split <;> rfl
  · have h0 := hqs key hkd hkey
    simp only [Bool.or_eq_false_iff] at h0
    rw [ho3 key hk0 h0.2]
    show (mem' key).map _ = _
    rw [hmem' key hk0 hkd hkey]
    cases σ.mem key with
    | none => rfl
    | some c => simp only [Option.map_some, List.map_map, Function.comp_def, kill_kill]
end Go.Ev


namespace Go.Ev
open Enc (enc)
theorem szD_encL {α : Type} [Enc α] {xs : List α} (h : xs ≠ []) : szD xs.length (encL xs) = Enc.sz α := by
  unfold szD
  have : 0 < xs.length := List.length_pos_iff.2 h
  rw [if_neg (by omega), encL_length, Nat.mul_div_cancel_left _ this]
class WfE (α : Type) [Enc α] : Prop where
  wfE : ∀ x : α, wfL (enc x)
instance : WfE Int := ⟨fun x => by rw [enc_int]; simp [wfL, wfD]⟩
instance : WfE Bool := ⟨fun x => by rw [enc_bool]; simp [wfL, wfD]⟩
instance : WfE ByteArray := ⟨fun x => by rw [enc_str]; simp [wfL, wfD]⟩
theorem wf_encL {α : Type} [Enc α] [WfE α] : ∀ xs : List α, wfL (encL xs)
  | [] => by rw [encL_nil, wfL]; trivial
  | x :: xs => by rw [encL_cons, wfL_app]; exact ⟨WfE.wfE x, wf_encL xs⟩
instance {α : Type} [Enc α] [WfE α] : WfE (List α) := ⟨fun xs => by
  rw [enc_list, wfL, wfL, wfD]
  refine ⟨⟨?_, wf_encL xs⟩, trivial⟩
  by_cases h : xs = []
  · subst h; simp [szD]
  · rw [szD_encL h]; exact ⟨Enc.pos, by rw [encL_length]⟩⟩
def RowI (mem : Mem) (d : Nat) (r : List Nat) (cs : List D) : Prop := mem (d, pk r) = some (bxL d r 0 cs) ∧ subL mem d r 0 cs
structure MemU (mem0 mem : Mem) (d : Nat) (r : List Nat) : Prop where
  clo : ∀ q : Key → Bool, (∀ key : Key, key.1 = d → q key = false) → memKill q mem0 = mem0 → memKill q mem = mem
  far : ∀ key, (∀ s, key ≠ (d, pk (r ++ s))) → mem key = mem0 key
theorem MemU.refl (mem : Mem) (d : Nat) (r : List Nat) : MemU mem mem d r := ⟨fun _ _ h => h, fun _ _ => rfl⟩
theorem MemU.trans {m0 m1 m2 : Mem} {d : Nat} {r : List Nat} (h1 : MemU m0 m1 d r) (h2 : MemU m1 m2 d r) : MemU m0 m2 d r :=
  ⟨fun q hq h => h2.clo q hq (h1.clo q hq h), fun key hk => (h2.far key hk).trans (h1.far key hk)⟩
theorem MemU.tight {m0 m : Mem} {d D : Nat} {r : List Nat} (h : MemU m0 m d r) (hd : d ≤ D) (hT : Tight D m0) : Tight D m :=
  h.clo _ (fun key hk => by simp; omega) hT
theorem MemR.up {m0 m : Mem} {d : Nat} {r : List Nat} {i n : Nat} (h : MemR m0 m d r i n) : MemU m0 m d r :=
  ⟨h.clo, fun key hk => h.far key fun j s _ _ => hk (j :: s)⟩
theorem MemU.down {m0 m : Mem} {d : Nat} {p : List Nat} {i : Nat} (h : MemU m0 m d (p ++ [i])) : MemR m0 m d p i 1 :=
  ⟨h.clo, fun key hk => h.far key fun s => by have := hk i s (Nat.le_refl _) (by omega); simpa using this⟩
theorem seg_mid {α : Type} {A e B : List α} {off m : Nat} (h : off + m ≤ e.length) : seg (A ++ (e ++ B)) (A.length + off) m = seg e off m := by
  unfold seg
  rw [if_pos (by simp; omega), if_pos h]
  congr 1
  rw [← List.drop_drop, List.drop_left, List.drop_append_of_le_length (by omega), List.take_append_of_le_length (by simp; omega)]
theorem splice_mid {α : Type} {A B : List α} {x y : α} : splice (A ++ (x :: B)) A.length [y] = A ++ (y :: B) := by
  unfold splice
  rw [List.take_left, List.length_singleton, ← List.drop_drop, List.drop_left]
  simp
theorem row_mark {g : Cfg} {fn : Nat} {agg : Bool} {F F' : List D} {k k' : Int} (hM : MarkOK g fn agg F F' k k') {mem : Mem} {d e : Nat} {r : List Nat} {cs pre post : List D} (hcs : cs = pre ++ (F ++ post)) (hd : d ≤ e) (hT : Tight e mem) (hR : RowI mem d r cs) :
    ∃ mem', callo g e fn [avC agg (bxL d r pre.length F), .one (.s (.int .i64 k))] mem = some (.one (.s (.int .i64 k')), mem') ∧ RowI mem' d r (pre ++ (F' ++ post)) ∧ MemU mem mem' d r := by
  subst hcs
  obtain ⟨h1, h2⟩ := hR
  rw [subL_app, subL_app] at h2
  obtain ⟨s1, s2, s3⟩ := h2
  rw [Nat.zero_add] at s2 s3
  obtain ⟨mem', hc, hr, hs⟩ := hM.2 d e r pre.length mem hd hT s2
  have hlen : F'.length = F.length := by
    have := congrArg List.length (hM.1 d r 0)
    rwa [bxL_length, bxL_length] at this
  refine ⟨mem', hc, ⟨?_, ?_⟩, hr.up⟩
  · rw [hr.far _ fun j s _ _ => key_ne app_ne, h1, bxL_app, bxL_app, bxL_app, bxL_app, hM.1, hlen]
  · rw [subL_app, subL_app, Nat.zero_add, hlen]
    exact ⟨subL_congrN (fun j q _ hj => hr.far _ fun j' s hj1 hj2 => key_ne (fork_ne (by omega))) s1, hs, subL_congrN (fun j q hj _ => hr.far _ fun j' s hj1 hj2 => key_ne (fork_ne (by omega))) s3⟩
theorem row_store {mem : Mem} {d : Nat} {r : List Nat} {cs pre post : List D} {v v' : Value} (hcs : cs = pre ++ (.sc v :: post)) (hR : RowI mem d r cs) :
    splice (bxL d r 0 cs) pre.length [.s v'] = bxL d r 0 (pre ++ (.sc v' :: post)) ∧ RowI (upd mem (d, pk r) (some (bxL d r 0 (pre ++ (.sc v' :: post))))) d r (pre ++ (.sc v' :: post)) ∧ MemU mem (upd mem (d, pk r) (some (bxL d r 0 (pre ++ (.sc v' :: post))))) d r := by
  subst hcs
  obtain ⟨h1, h2⟩ := hR
  refine ⟨?_, ⟨by rw [upd_get, if_pos rfl], ?_⟩, ⟨fun q hq h => ?_, fun key hk => ?_⟩⟩
  · rw [bxL_app, bxL_app, bxL, bxL]
    have := @splice_mid C (bxL d r 0 pre) (bxL d r (0 + pre.length + 1) post) (bxC d (r ++ [0 + pre.length]) (.sc v)) (.s v')
    rw [bxL_length] at this
    exact this
  · refine subL_congr (m := mem) (fun j q _ => by rw [upd_get, if_neg (key_ne fun e => app_ne e.symm)]) ?_
    rw [subL_app, subL, subD] at h2 ⊢
    exact h2
  · funext key
    unfold memKill
    by_cases hkey : key = (d, pk r)
    · subst hkey
      rw [upd_get, if_pos rfl, hq _ rfl]
      simp only [Bool.false_eq_true, if_false, Option.map_some]
      rw [bxL_kill fun j _ => hq _ rfl]
    · have := congrFun h key
      unfold memKill at this
      rw [upd_get, if_neg hkey]
      exact this
  · rw [upd_get, if_neg (by have := hk []; simpa using this)]

def mkRow {α : Type} (F : α → Int → α × Int) : List α → Int → List α × Int
  | [], k => ([], k)
  | x :: xs, k => ((F x k).1 :: (mkRow F xs (F x k).2).1, (mkRow F xs (F x k).2).2)
theorem mkRow_snoc {α : Type} (F : α → Int → α × Int) : ∀ (xs : List α) (x : α) (k : Int), mkRow F (xs ++ [x]) k = ((mkRow F xs k).1 ++ [(F x (mkRow F xs k).2).1], (F x (mkRow F xs k).2).2)
  | [], _, _ => rfl
  | y :: xs, x, k => by rw [List.cons_append, mkRow, mkRow_snoc F xs x, mkRow]; rfl
theorem mkRow_len {α : Type} (F : α → Int → α × Int) : ∀ (xs : List α) (k : Int), (mkRow F xs k).1.length = xs.length
  | [], _ => rfl
  | x :: xs, k => by rw [mkRow, List.length_cons, mkRow_len F xs, List.length_cons]
def FnEndM (P : Program) (d : Nat) (l : List ResultVar) (gl : List Gho) (R : AV → Mem → Prop) (o : Option Out) : Prop := ∃ r m, finK P d l gl o = some (r, m) ∧ R r m
theorem start_m {g : Cfg} {P : Program} {f : Nat} {args : List AV} {mem : Mem} {d : Nat} {fn : Func} {R : AV → Mem → Prop} (c : Code) (l : List ResultVar) {tk : List Nat} {kp : List (Nat × Kp)} {cs : List (Nat × (List AV → Option AV))} {gl : List (Nat × List Gho)} (G : Has P g f fn tk kp cs gl) (h1 : P.funcs[f]? = some fn) (h2 : fn.body = some c)
    (h4 : args.length ≤ fn.ntmps) (h5 : fn.results.toList = l) (h : Goal (FnEndM P d l ((lookN atEnd gl).getD []) R) (evk g (d + 1) f c [] { env := fun t => (args[t]?).getD .dead, mem })) : ∃ r m, callo g d f args mem = some (r, m) ∧ R r m := by
  rw [evo_start l G.no G.P h1 h2 G.ok h4 h5, G.gh]
  exact h
theorem goal_callM {g : Cfg} {d f : Nat} {T : Option Out → Prop} {ops : Array Oper} {dst : Option Nat} {l : List Oper} {K : List It} {env : Nat → AV} {k : Nat} {args : List AV} {mem mem' : Mem} (args' : List AV) (r : AV) (ha : args = args') (h : callo g d k args' mem = some (r, mem'))
    (h2 : Goal T (opsK g d f ops l K { env := putD env dst r, mem := mem' })) : Goal T (retK g d f ops dst l K env (callo g d k args mem)) := by
  subst ha
  rw [h]
  exact h2
def rowKp : Kp := { hd := [0, 1, 5], bx := [], ex := [1], rt := [] }
def RowNext (b : C) (k : Int) (i : Nat) (Q : Mem → Prop) (o : Option Out) : Prop :=
  ∃ σ, o = some (.norm σ) ∧ σ.env 0 = .one b ∧ σ.env 1 = .one (.s (.int .i64 k)) ∧ σ.env 5 = .one (.s (.int .i64 (i : Int))) ∧ Q σ.mem
def RowLast (k : Int) (Q : Mem → Prop) (o : Option Out) : Prop := ∃ σ, o = some (.exit 0 σ) ∧ σ.env 1 = .one (.s (.int .i64 k)) ∧ Q σ.mem
def rowStep (n : Nat) : Nat → Option (Nat ⊕ Unit) := fun i => if i < n then some (.inl (i + 1)) else some (.inr ())
theorem rowStep_iter (n : Nat) : ∀ (m i : Nat), i + m = n → iter (rowStep n) i = some ()
  | 0, i, h => iter_inr (by unfold rowStep; rw [if_neg (by omega)])
  | m + 1, i, h => by
    rw [iter_inl (s' := i + 1) (by unfold rowStep; rw [if_pos (by omega)])]
    exact rowStep_iter n m (i + 1) (by omega)
theorem goal_rows {α : Type} [Enc α] {g : Cfg} {e f : Nat} {T : Option Out → Prop} {c : Code} {K : List It} {σ : St} (F : α → Int → α × Int) (xs : List α) (k : Int) (d : Nat) (r : List Nat) (mem0 : Mem)
    (hk : lookK (f, rid c) g.keep = some rowKp) (h0 : σ.env 0 = .one (.bs (d, pk r) xs.length (szD xs.length (encL xs)))) (h1 : σ.env 1 = .one (.s (.int .i64 k))) (h5 : σ.env 5 = .one (.s (.int .i64 0)))
    (hR : RowI σ.mem d r (encL xs)) (hm : MemU mem0 σ.mem d r) (hl : xs.length ≤ 9223372036854775806)
    (round : ∀ (i : Nat) (A B : List D) (x : α) (k' : Int) (σ' : St), x ∈ xs → i < xs.length → i ≤ 9223372036854775806 → A.length = i * Enc.sz α → σ'.env 0 = .one (.bs (d, pk r) xs.length (Enc.sz α)) → σ'.env 1 = .one (.s (.int .i64 k')) → σ'.env 5 = .one (.s (.int .i64 (i : Int))) →
      RowI σ'.mem d r (A ++ (enc x ++ B)) → MemU mem0 σ'.mem d r →
      Goal (RowNext (.bs (d, pk r) xs.length (Enc.sz α)) (F x k').2 (i + 1) fun m => RowI m d r (A ++ (enc (F x k').1 ++ B)) ∧ MemU mem0 m d r) (evk g e f c [] σ'))
    (last : ∀ (z : Nat) (k' : Int) (σ' : St), σ'.env 0 = .one (.bs (d, pk r) xs.length z) → σ'.env 1 = .one (.s (.int .i64 k')) → σ'.env 5 = .one (.s (.int .i64 (xs.length : Int))) → Goal (RowLast k' fun m => m = σ'.mem) (evk g e f c [] σ'))
    (after : ∀ σ', σ'.env 1 = .one (.s (.int .i64 (mkRow F xs k).2)) → RowI σ'.mem d r (encL (mkRow F xs k).1) → MemU mem0 σ'.mem d r → Goal T (runK g e f K (.exit 0 σ'))) : Goal T (evk g e f (.loop c) K σ) := by
  refine loopP (step := rowStep xs.length) (s0 := 0) (r := ()) rowKp (fun i σ' => i ≤ xs.length ∧ σ'.env 0 = .one (.bs (d, pk r) xs.length (szD xs.length (encL xs))) ∧ σ'.env 1 = .one (.s (.int .i64 (mkRow F (xs.take i) k).2)) ∧ σ'.env 5 = .one (.s (.int .i64 (i : Int))) ∧
      RowI σ'.mem d r (encL ((mkRow F (xs.take i) k).1 ++ xs.drop i)) ∧ MemU mem0 σ'.mem d r)
    (fun _ out => ∃ σ', out = .exit 0 σ' ∧ σ'.env 1 = .one (.s (.int .i64 (mkRow F xs k).2)) ∧ RowI σ'.mem d r (encL (mkRow F xs k).1) ∧ MemU mem0 σ'.mem d r) (rowStep_iter xs.length xs.length 0 (by omega)) hk ?_ ?_ ?_
  · exact ⟨by omega, by simp [restrict_env, rowKp, h0], by simp [restrict_env, rowKp, h1, mkRow], by simp [restrict_env, rowKp, h5], by simpa [rowKp, mkRow] using hR, by simpa [rowKp] using hm⟩
  · intro i σ' a hI hs
    obtain ⟨hi, e0, e1, e5, eR, eM⟩ := hI
    unfold rowStep at hs
    by_cases hlt : i < xs.length
    · rw [if_pos hlt] at hs
      cases hs
      have hne : xs ≠ [] := by rintro rfl; simp at hlt
      rw [szD_encL hne] at e0
      have hrow : encL ((mkRow F (xs.take i) k).1 ++ xs.drop i) = encL (mkRow F (xs.take i) k).1 ++ (enc xs[i] ++ encL (xs.drop (i + 1))) := by
        rw [encL_append, List.drop_eq_getElem_cons hlt, encL_cons]
      rw [hrow] at eR
      have hA : (encL (mkRow F (xs.take i) k).1).length = i * Enc.sz α := by rw [encL_length, mkRow_len, List.length_take, Nat.min_eq_left (by omega)]
      have hr := round i _ _ xs[i] _ σ' (List.getElem_mem hlt) hlt (by omega) hA e0 e1 e5 eR eM
      have ht : xs.take (i + 1) = xs.take i ++ [xs[i]] := by simp
      obtain ⟨σ2, ho, f0, f1, f5, fR, fM⟩ := hr
      rw [ho]
      refine ⟨by omega, by simp [restrict_env, rowKp, f0, szD_encL hne], ?_, by simp [restrict_env, rowKp, f5], ?_, by simpa [rowKp] using fM⟩
      · rw [ht, mkRow_snoc]; simp [restrict_env, rowKp, f1]
      · rw [ht, mkRow_snoc]
        simpa [rowKp] using fR
    · rw [if_neg hlt] at hs
      cases hs
      have hin : i = xs.length := by omega
      subst hin
      obtain ⟨σ2, ho, f1, fm⟩ := last _ _ σ' e0 e1 e5
      rw [ho]
      rw [List.take_of_length_le (Nat.le_refl _)] at f1
      rw [List.take_of_length_le (Nat.le_refl _), List.drop_of_length_le (Nat.le_refl _), List.append_nil] at eR
      exact ⟨_, rfl, by simp [restrict_env, rowKp, f1], by simpa [rowKp, fm] using eR, by simpa [rowKp, fm] using eM⟩
  · rintro out ⟨σ', rfl, g1, gR, gM⟩
    exact after σ' g1 gR gM

theorem shape_row {α : Type} [Enc α] {xs ys : List α} (h : ys.length = xs.length) (d : Nat) (p : List Nat) (i : Nat) : bxL d p i (enc ys) = bxL d p i (enc xs) := by
  have : szD xs.length (encL ys) = szD xs.length (encL xs) := by unfold szD; rw [encL_length, encL_length, h]
  rw [enc_list, enc_list, bxL, bxL, h]
  simp only [bxC, this, bxL]
def MkOK {α : Type} [Enc α] [Sm α] (g : Cfg) (fn : Nat) (agg : Bool) (F : α → Int → α × Int) : Prop := ∀ x k, Sm.lg x → MarkOK g fn agg (enc x) (enc (F x k).1) k (F x k).2
theorem mark_row_ok {α : Type} [Enc α] [Sm α] {g : Cfg} {fn : Nat} {F : α → Int → α × Int}
    (h : ∀ (xs : List α) k d e r mem, Sm.lg xs → d ≤ e → Tight e mem → RowI mem d r (encL xs) → ∃ R m, callo g e fn [.one (.bs (d, pk r) xs.length (szD xs.length (encL xs))), .one (.s (.int .i64 k))] mem = some (R, m) ∧
      R = .one (.s (.int .i64 (mkRow F xs k).2)) ∧ MemU mem m d r ∧ RowI m d r (encL (mkRow F xs k).1)) : MkOK g fn false (mkRow F) := by
  intro xs k hx
  refine ⟨fun d p i => shape_row (mkRow_len F xs k) d p i, fun d e p i mem hd hT hs => ?_⟩
  rw [enc_list, subL, subD] at hs
  obtain ⟨R, m, hc, rfl, hM, hR⟩ := h xs k d e (p ++ [i]) mem hx hd hT hs.1
  refine ⟨m, hc, ?_, ?_⟩
  · rw [enc_list]; exact hM.down
  · rw [enc_list, subL, subD]; exact ⟨hR, by rw [subL]; trivial⟩
theorem seg_bx {d : Nat} {r : List Nat} {row pre post : List D} {c : D} {j : Nat} (h : row = pre ++ (c :: post)) (hj : pre.length = j) : seg (bxL d r 0 row) j 1 = some [bxC d (r ++ [pre.length]) c] := by
  subst h hj
  have := @seg_mid C (bxL d r 0 pre) [bxC d (r ++ [pre.length]) c] (bxL d r (0 + pre.length + 1) post) 0 1 (by simp)
  rw [bxL_length] at this
  rw [bxL_app, bxL, Nat.zero_add] at *
  exact this.trans rfl
theorem MemR.wide {m0 m : Mem} {d : Nat} {p : List Nat} {i n i' n' : Nat} (h : MemR m0 m d p i' n') (h1 : i ≤ i') (h2 : i' + n' ≤ i + n) : MemR m0 m d p i n :=
  ⟨h.clo, fun key hk => h.far key fun j r a b => hk j r (by omega) (by omega)⟩
theorem MemR.trans {m0 m1 m2 : Mem} {d : Nat} {p : List Nat} {i n : Nat} (h1 : MemR m0 m1 d p i n) (h2 : MemR m1 m2 d p i n) : MemR m0 m2 d p i n :=
  ⟨fun q hq h => h2.clo q hq (h1.clo q hq h), fun key hk => (h2.far key hk).trans (h1.far key hk)⟩
theorem MemR.refl (m : Mem) (d : Nat) (p : List Nat) (i n : Nat) : MemR m m d p i n := ⟨fun _ _ h => h, fun _ _ => rfl⟩
theorem MemR.tight {m0 m : Mem} {d D : Nat} {p : List Nat} {i n : Nat} (h : MemR m0 m d p i n) (hd : d ≤ D) (hT : Tight D m0) : Tight D m :=
  h.clo _ (fun key hk => by simp; omega) hT
theorem struct_mark {g : Cfg} {fn : Nat} {agg : Bool} {F F' : List D} {k k' : Int} (hM : MarkOK g fn agg F F' k k') {mem : Mem} {d e : Nat} {p : List Nat} {i : Nat} {cs pre post : List D} (hcs : cs = pre ++ (F ++ post)) (hd : d ≤ e) (hT : Tight e mem) (hR : subL mem d p i cs) :
    ∃ mem', callo g e fn [avC agg (bxL d p (i + pre.length) F), .one (.s (.int .i64 k))] mem = some (.one (.s (.int .i64 k')), mem') ∧ subL mem' d p i (pre ++ (F' ++ post)) ∧ MemR mem mem' d p i cs.length := by
  subst hcs
  rw [subL_app, subL_app] at hR
  obtain ⟨s1, s2, s3⟩ := hR
  obtain ⟨mem', hc, hr, hs⟩ := hM.2 d e p (i + pre.length) mem hd hT s2
  have hlen : F'.length = F.length := by
    have := congrArg List.length (hM.1 d p 0)
    rwa [bxL_length, bxL_length] at this
  refine ⟨mem', hc, ?_, hr.wide (by omega) (by simp only [List.length_append]; omega)⟩
  rw [subL_app, subL_app, hlen]
  exact ⟨subL_congrN (fun j q _ hj => hr.far _ fun j' s hj1 hj2 => key_ne (fork_ne (by omega))) s1, hs, subL_congrN (fun j q hj _ => hr.far _ fun j' s hj1 hj2 => key_ne (fork_ne (by omega))) s3⟩
theorem memKill_comp (p q : Key → Bool) (m : Mem) : memKill p (memKill q m) = memKill (fun k => q k || p k) m := by
  funext k
  unfold memKill
  by_cases h1 : p k = true
  · rw [if_pos h1, if_pos (by simp [h1])]
  · by_cases h2 : q k = true
    · rw [if_neg h1, if_pos h2, if_pos (by simp [h2])]; rfl
    · rw [if_neg h1, if_neg h2, if_neg (by simp [h1, h2])]
      cases m k with
      | none => rfl
      | some cs => simp only [Option.map_some, mapmap_kill]
theorem memKill_sub {p q : Key → Bool} (hpq : ∀ k, q k = true → p k = true) {m : Mem} (h : memKill p m = m) : memKill q m = m := by
  have h2 : (fun k => p k || q k) = p := by
    funext k
    cases hq : q k with
    | false => simp
    | true => rw [hpq k hq]; rfl
  rw [← h, memKill_comp, h2]
theorem byval_end {mem m : Mem} {d e b : Nat} {p : List Nat} {i n : Nat} {cs cs' : List D} {i0 : Nat} (hd : d ≤ e) (hT : Tight e mem) (hr : MemR (upd mem (e + 1, b) (some (bxL d p i0 cs))) m d p i n) (hs : subL m d p i cs') :
    MemR mem (memKill (fun k => decide (e < k.1)) m) d p i n ∧ subL (memKill (fun k => decide (e < k.1)) m) d p i cs' := by
  have hlow : ∀ key : Key, key.1 = d → decide (e < key.1) = false := fun key hk => by simp; omega
  refine ⟨⟨fun q hq h => ?_, fun key hk => ?_⟩, subL_kill (q := fun k => decide (e < k.1)) (fun j r _ => hlow _ rfl) (fun j r _ => by
    unfold memKill
    rw [if_neg (by simp; omega)]) hs⟩
  · let q' : Key → Bool := fun k => q k && !(k == (e + 1, b))
    have hq' : memKill q' m = m := by
      refine hr.clo q' (fun key hk => by simp [q', hq key hk]) ?_
      have h0 : memKill q' mem = mem := memKill_sub (fun k hk => by simp only [q', Bool.and_eq_true] at hk; exact hk.1) h
      funext k
      unfold memKill
      by_cases hk : k = (e + 1, b)
      · subst hk
        rw [if_neg (by simp [q']), upd_get, if_pos rfl, Option.map_some, bxL_kill fun j _ => by simp only [q']; rw [hq (d, pk (p ++ [j])) rfl]; rfl]
      · have := congrFun h0 k
        unfold memKill at this
        rw [upd_get, if_neg hk]
        exact this
    rw [memKill_comp]
    conv => rhs; rw [← hq', memKill_comp]
    congr 1
    funext k
    by_cases hk : k = (e + 1, b)
    · subst hk; simp
    · have : q' k = q k := by simp [q', hk]
      rw [this, Bool.or_comm]
  · by_cases hkb : key = (e + 1, b)
    · subst hkb
      unfold memKill
      rw [if_pos (by simp)]
      exact (hT.none (by simp)).symm
    · have h1 : m key = mem key := by
        rw [hr.far key hk, upd_get, if_neg hkb]
      have h2 := congrFun hT key
      unfold memKill at h2 ⊢
      rw [h1]
      exact h2
noncomputable def markO {α : Type} [Sm α] (F : α → Int → α × Int) (x : α) (k : Int) : Option (α × Int) := by
  classical exact if Sm.lg x then some (F x k) else none
theorem markO_eq {α : Type} [Sm α] {F : α → Int → α × Int} {x : α} {k : Int} {r : α × Int} (h : markO F x k = some r) : Sm.lg x ∧ F x k = r := by
  unfold markO at h
  split at h
  · rename_i hl; exact ⟨hl, Option.some.inj h⟩
  · cases h
theorem markO_some {α : Type} [Sm α] {F : α → Int → α × Int} {x : α} {k : Int} (h : Sm.lg x) : markO F x k = some (F x k) := by
  unfold markO
  rw [if_pos h]
theorem key_low {key : Key} (h : bigK ≤ key.2) (a b : Nat) (hb : b < bigK) : (key = (a, b)) = False := by
  simp only [eq_iff_iff, iff_false]
  rintro rfl
  simp only at h
  omega
end Go.Ev


namespace Go.Ev
def totC {α : Type} (cnt : α → Nat) (xs : List α) : Nat := (xs.map cnt).sum
theorem totC_cons {α : Type} (cnt : α → Nat) (x : α) (xs : List α) : totC cnt (x :: xs) = cnt x + totC cnt xs := by simp [totC]
theorem totC_le {α : Type} (cnt : α → Nat) (N : Nat) : ∀ xs : List α, (∀ x ∈ xs, cnt x ≤ N) → totC cnt xs ≤ xs.length * N
  | [], _ => by simp [totC]
  | x :: xs, h => by
    have h1 := h x (List.mem_cons_self ..)
    have h2 := totC_le cnt N xs fun y hy => h y (List.mem_cons_of_mem _ hy)
    rw [totC_cons, List.length_cons, Nat.add_mul]
    omega
def maxMark : Int := 4611686018427387904
theorem mkRow_snd {α : Type} {E : α → Int → α × Int} {cnt : α → Nat} (hE : ∀ x k, 0 ≤ k → k + cnt x ≤ maxMark → (E x k).2 = k + cnt x) : ∀ (xs : List α) (k : Int), 0 ≤ k → k + totC cnt xs ≤ maxMark → (mkRow E xs k).2 = k + totC cnt xs
  | [], k, _, _ => by simp [mkRow, totC]
  | x :: xs, k, hk, hb => by
    rw [totC_cons] at hb
    have h1 := hE x k hk (by omega)
    rw [mkRow]
    simp only
    rw [mkRow_snd hE xs (E x k).2 (by omega) (by omega), totC_cons, h1]
    omega
theorem held_row {α : Type} {E : α → Int → α × Int} {cnt : α → Nat} {xs ys : List α} {step : Int × Int → Option ((Int × Int) ⊕ (Int ⊕ Int))} (hE : ∀ x k, 0 ≤ k → k + cnt x ≤ maxMark → (E x k).2 = k + cnt x)
    (h1 : ∀ (i : Nat) x k, x ∈ xs → i < ys.length → ys[i]? = some (E x k).1 → 0 ≤ k → k + cnt x ≤ maxMark → step (k, (i : Int)) = some (.inl ((E x k).2, addI i 1)))
    (h2 : ∀ k, step (k, ys.length) = some (.inr (.inr k))) {k : Int} (hys : ys = (mkRow E xs k).1) (hl : xs.length ≤ 9223372036854775806) (hk : 0 ≤ k) (hb : k + totC cnt xs ≤ maxMark) :
    iter step (k, 0) = some (.inr (mkRow E xs k).2) := by
  have key : ∀ (s : List α) (i : Nat) (k' : Int), xs.drop i = s → ys.drop i = (mkRow E s k').1 → i + s.length = ys.length → 0 ≤ k' → k' + totC cnt s ≤ maxMark → iter step (k', (i : Int)) = some (.inr (mkRow E s k').2) := by
    intro s
    induction s with
    | nil =>
      intro i k' _ _ hi _ _
      simp only [List.length_nil, Nat.add_zero] at hi
      subst hi
      exact iter_inr (h2 k')
    | cons x s ih =>
      intro i k' hx0 hd hi hk' hb'
      have hmx : x ∈ xs := List.mem_of_mem_drop (i := i) (by rw [hx0]; exact List.mem_cons_self ..)
      have hx1 : xs.drop (i + 1) = s := by
        have := congrArg List.tail hx0
        simpa using this
      rw [mkRow] at hd
      rw [totC_cons] at hb'
      simp only [List.length_cons] at hi
      have hx : ys[i]? = some (E x k').1 := by
        have := congrArg (fun l => l[0]?) hd
        simpa using this
      have hd2 : ys.drop (i + 1) = (mkRow E s (E x k').2).1 := by
        have := congrArg List.tail hd
        simpa using this
      have hs := hE x k' hk' (by omega)
      have hyl : ys.length ≤ 9223372036854775806 := by rw [hys, mkRow_len]; exact hl
      rw [iter_inl (h1 i x k' hmx (by omega) hx hk' (by omega)), addI_eq (by omega) (by omega)]
      have := ih (i + 1) (E x k').2 hx1 hd2 (by omega) (by omega) (by omega)
      rw [mkRow]
      exact this
  exact key xs 0 k rfl (by simpa using hys) (by rw [hys, mkRow_len]; simp) hk hb
end Go.Ev


namespace Go.Ev
open Wf (wf)
open Sm (sm lg)
instance : Wf THeap := ⟨fun x => wf x.vars ∧ wf x.next⟩
instance : Sm THeap := ⟨fun x => sm x.vars ∧ sm x.next, fun x => lg x.vars ∧ lg x.next, fun x h => ⟨Sm.le _ h.1, Sm.le _ h.2⟩⟩
instance : DecidableEq THeap := fun a b => by
  cases a; cases b
  simp only [THeap.mk.injEq]
  infer_instance
instance : Wf TNode := ⟨fun x => wf x.vars ∧ wf x.reach ∧ wf x.shared ∧ wf x.many⟩
instance : Sm TNode := ⟨fun x => sm x.vars ∧ sm x.reach, fun x => lg x.vars ∧ lg x.reach, fun x h => ⟨Sm.le _ h.1, Sm.le _ h.2⟩⟩
instance : DecidableEq TNode := fun a b => by
  cases a; cases b
  simp only [TNode.mk.injEq]
  infer_instance
instance : Wf TStructure := ⟨fun x => wf x.nodes ∧ wf x.next⟩
instance : Sm TStructure := ⟨fun x => sm x.nodes ∧ sm x.next, fun x => lg x.nodes ∧ lg x.next, fun x h => ⟨Sm.le _ h.1, Sm.le _ h.2⟩⟩
instance : DecidableEq TStructure := fun a b => by
  cases a; cases b
  simp only [TStructure.mk.injEq]
  infer_instance
end Go.Ev


namespace Go.Ev
open Enc (enc)
instance : WfE TNode := ⟨fun x => by
  show wfL (enc x.vars ++ (enc x.reach ++ (enc x.shared ++ (enc x.many ++ ([])))))
  simp only [wfL_app]
  exact ⟨WfE.wfE x.vars, WfE.wfE x.reach, WfE.wfE x.shared, WfE.wfE x.many, trivial⟩⟩
instance : WfE TStructure := ⟨fun x => by
  show wfL (enc x.nodes ++ (enc x.next ++ ([])))
  simp only [wfL_app]
  exact ⟨WfE.wfE x.nodes, WfE.wfE x.next, trivial⟩⟩
def mkE_markIntS : Int → Int → Int × Int := fun x k' => (k', addI k' 1)
def mkF_markIntS : List Int → Int → List Int × Int := mkRow mkE_markIntS
def cntE_markIntS : Int → Nat := fun _ => 1
def cntF_markIntS : List Int → Nat := totC cntE_markIntS
def mkE_markNodeS (x : TNode) (k' : Int) : TNode × Int := (⟨(mkF_markIntS x.vars k').1, (mkF_markIntS x.reach ((mkF_markIntS x.vars k').2)).1, (mkF_markIntS x.reach ((mkF_markIntS x.vars k').2)).2, addI ((mkF_markIntS x.reach ((mkF_markIntS x.vars k').2)).2) 1⟩, addI (addI ((mkF_markIntS x.reach ((mkF_markIntS x.vars k').2)).2) 1) 1)
def mkF_markNodeS : List TNode → Int → List TNode × Int := mkRow mkE_markNodeS
def cntE_markNodeS : TNode → Nat := fun x => cntF_markIntS x.vars + cntF_markIntS x.reach + 1 + 1
def cntF_markNodeS : List TNode → Nat := totC cntE_markNodeS
def mkF_markStructure (x : TStructure) (k : Int) : TStructure × Int := (⟨(mkF_markNodeS x.nodes k).1, (mkF_markIntS x.next ((mkF_markNodeS x.nodes k).2)).1⟩, (mkF_markIntS x.next ((mkF_markNodeS x.nodes k).2)).2)
def cntF_markStructure (x : TStructure) : Nat := cntF_markNodeS x.nodes + cntF_markIntS x.next
instance : WfE THeap := ⟨fun x => by
  show wfL (enc x.vars ++ (enc x.next ++ ([])))
  simp only [wfL_app]
  exact ⟨WfE.wfE x.vars, WfE.wfE x.next, trivial⟩⟩
def mkF_markHeap (x : THeap) (k : Int) : THeap × Int := (⟨(mkF_markIntS x.vars k).1, (mkF_markIntS x.next ((mkF_markIntS x.vars k).2)).1⟩, (mkF_markIntS x.next ((mkF_markIntS x.vars k).2)).2)
def cntF_markHeap (x : THeap) : Nat := cntF_markIntS x.vars + cntF_markIntS x.next
end Go.Ev

