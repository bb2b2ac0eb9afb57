import Derived.Test.YtahcfnjgllpkdaaEvGen
import Derived.Below
import Derived.Laws.AppendOwn
import Derived.Laws.OwnMore
set_option linter.unusedSimpArgs false
set_option linter.unusedVariables false
set_option linter.unnecessarySimpa false
namespace Go.Ev
open Go.RowKit

/-! from a row that a call has made (the library's words) to data that is owned -/
theorem below_kept {w w' : World} (hb : Below w.heap.size w w') (hs : w.heap.size ≤ w'.heap.size) : Kept w w' :=
  ⟨⟨hb.os, hb.tape, hb.output⟩, fun a h => ⟨Nat.lt_of_lt_of_le h hs, hb.frozen h⟩⟩

/-- the account with one more row, for the result -/
def ghRow (G : Gh) (b n : Nat) : Gh := { G with own := fun x => if x = b then some (.at .ret []) else G.own x, use := fun x => if x = b then n else G.use x }

theorem row_back {w w' : World} {G : Gh} {e : TypeId} {n sz : Nat} {vs : List Value} {v' : Value} (h : w'.ownsRow w.heap.size e sz v' n vs) (hn : 0 < n) (hs0 : 0 < sz) (hl : vs.length = n * sz) (hsc : ∀ u ∈ vs, scal u = true)
    (hw : ∀ b t, G.own b = some t → b < w.heap.size) (hsz : w.heap.size ≤ w'.heap.size) :
    ∃ G', RA w' G' .ret (.one (C.ofD .own (.sl n (vs.map D.sc)))) v' ∧ (∀ b, b < w.heap.size → G'.own b = G.own b ∧ G'.use b = G.use b) ∧ ∀ b t, G'.own b = some t → b < w'.heap.size := by
  obtain ⟨_, h⟩ := h
  rcases h with ⟨_, h0⟩ | ⟨g, cap, cur, rfl, hg, hheap, hcap, hmax, hcur, htake⟩
  · omega
  · have hglt : g < w'.heap.size := by
      rcases Nat.lt_or_ge g w'.heap.size with hlt | hge
      · exact hlt
      · simp [Array.getElem?_eq_none hge] at hheap
    have hpos : 0 < vs.length := by rw [hl]; exact Nat.mul_pos hn hs0
    refine ⟨ghRow G g vs.length, ?_, fun b hb => ?_, fun b t hb => ?_⟩
    · show RD w' _ .ret .own [] (.sl n (vs.map D.sc)) _
      rw [RD]
      refine .inr ⟨fun h0 => by rw [List.map_eq_nil_iff] at h0; rw [h0] at hpos; simp at hpos, hn, g, 0, cap, rfl, hcap, ?_, ?_⟩
      · refine ⟨by simp [ghRow], by simp [ghRow], rfl, cur, e, hheap, fun sz' hs => ?_⟩
        have : sz' = sz := by
          have : n * sz' = n * sz := by rw [← hl, ← List.length_map (f := D.sc)]; exact hs.symm
          exact Nat.eq_of_mul_eq_mul_left hn this
        subst this
        omega
      · refine RDs_of fun j d hd => ?_
        rw [List.getElem?_map] at hd
        have hj : j < vs.length := by
          rcases Nat.lt_or_ge j vs.length with h | h
          · exact h
          · rw [List.getElem?_eq_none h] at hd; cases hd
        rw [List.getElem?_eq_getElem hj] at hd
        cases hd
        have hc : cur.toList[j]? = some vs[j] := by
          have h1 : (cur.toList.take (n * sz))[j]? = some vs[j] := by rw [htake, List.getElem?_eq_getElem hj]
          rw [List.getElem?_take, if_pos (by omega)] at h1
          exact h1
        refine ⟨vs[j], ?_, by rw [RD]; exact ⟨rfl, hsc _ (List.getElem_mem hj)⟩⟩
        unfold World.cell?
        simp only [hheap, Nat.zero_add]
        rw [← hc]
        simp
    · have : b ≠ g := by omega
      simp [ghRow, this]
    · simp only [ghRow] at hb
      split at hb
      · rename_i he; rw [he]; exact hglt
      · exact Nat.lt_of_lt_of_le (hw b t hb) hsz

/-- the empty result -/
theorem empty_back {w' : World} {G : Gh} {a : Option Addr} : RA w' G .ret (.one (C.ofD .own (.sl 0 []))) (.slice a 0 0) := by
  show RD w' G .ret .own [] (.sl 0 []) _
  rw [RD]
  exact .inl ⟨rfl, rfl, a, 0, rfl, fun _ => rfl⟩

/-- a row of scalars that came in -/
theorem row_came {w : World} {G : Gh} {o : Ow} {m : Md} {p : List Nat} {n : Nat} {vs : List Value} {v : Value} (h : RD w G o m p (.sl n (vs.map D.sc)) v) :
    (n = 0 ∧ vs = [] ∧ ∃ a cap, v = .slice a 0 cap) ∨ (0 < n ∧ vs ≠ [] ∧ (∀ u ∈ vs, scal u = true) ∧ ∃ b off cap, v = .slice (some ⟨b, off, none⟩) n cap ∧ ∀ j u, vs[j]? = some u → w.cell? ⟨b, off + j, none⟩ = some u) := by
  rw [RD] at h
  rcases h with ⟨h1, h2, a, cap, rfl, _⟩ | ⟨h1, h2, b, off, cap, rfl, hc, _, hs⟩
  · exact .inl ⟨h2, List.map_eq_nil_iff.1 h1, a, cap, rfl⟩
  · have hg : ∀ j u, vs[j]? = some u → w.cell? ⟨b, off + j, none⟩ = some u ∧ scal u = true := fun j u hj => by
      obtain ⟨x, hx, hr⟩ := RDs_get hs j (.sc u) (by rw [List.getElem?_map, hj]; rfl)
      rw [RD] at hr
      obtain ⟨rfl, hr⟩ := hr
      rw [Nat.zero_add] at hx
      exact ⟨hx, hr⟩
    refine .inr ⟨h2, fun h0 => h1 (by rw [h0]; rfl), fun u hu => ?_, b, off, cap, rfl, fun j u hj => (hg j u hj).1⟩
    obtain ⟨j, hj⟩ := List.mem_iff_getElem?.1 hu
    exact (hg j u hj).2

/-- data without rows in it -/
class FlatE (α : Type) [Enc α] where
  fl : α → List Value
  eq : ∀ x : α, Enc.enc x = (fl x).map D.sc
  sc : ∀ x : α, ∀ u ∈ fl x, scal u = true
def flL {α : Type} [Enc α] [FlatE α] (xs : List α) : List Value := xs.flatMap FlatE.fl
theorem encL_flat {α : Type} [Enc α] [FlatE α] (xs : List α) : encL xs = (flL xs).map D.sc := by
  induction xs with
  | nil => rfl
  | cons x xs ih => rw [encL_cons, ih, FlatE.eq]; simp [flL]
theorem flL_length {α : Type} [Enc α] [FlatE α] (xs : List α) : (flL xs).length = xs.length * Enc.sz α := by
  rw [← encL_length, encL_flat, List.length_map]
@[simp] theorem flL_append {α : Type} [Enc α] [FlatE α] (xs ys : List α) : flL (xs ++ ys) = flL xs ++ flL ys := by simp [flL]
instance : FlatE Int := ⟨fun n => [.int .i64 n], fun _ => rfl, fun _ u h => by simp at h; subst h; rfl⟩
instance : FlatE Bool := ⟨fun n => [.bool n], fun _ => rfl, fun _ u h => by simp at h; subst h; rfl⟩
instance : FlatE ByteArray := ⟨fun n => [.string n], fun _ => rfl, fun _ u h => by simp at h; subst h; rfl⟩

/-- slices.Clone of data without rows in it -/
def lib_Clone {α : Type} (bytes : Nat) (s : List α) : Option (List α) := (room s.length bytes).bind fun _ => some s
theorem one_arg {w : World} {G : Gh} {vals : Array Value} {x : AV} (h : ArgsOK w G [x] vals) : ∃ v, vals = #[v] ∧ ∀ d t, RA w G (.slot d t) x v := by
  obtain ⟨h1, h2⟩ := h
  obtain ⟨v, hv, hr⟩ := h2 0 x rfl
  refine ⟨v, ?_, hr⟩
  apply Array.ext_getElem?
  intro i
  match i with
  | 0 => rw [hv]; rfl
  | i + 1 => rw [Array.getElem?_eq_none (by rw [h1]; simp)]; rfl

theorem pc_clone {P : Program} {f : Nat} {α : Type} [Enc α] [FlatE α] {e : TypeId} {bytes : Nat} (hE : Enters P f)
    (hnil : ∀ n c w, Calls P f #[.slice none n c] w fun e w' => e = .returned (.slice none 0 0) ∧ w' = w)
    (hzero : ∀ a c w, Calls P f #[.slice (some a) 0 c] w fun e w' => ∃ b, e = .returned (.slice b 0 0) ∧ Below w.heap.size w w')
    (hrow : ∀ b off n c (vs : List Value) w, vs.length = n * Enc.sz α → n * bytes ≤ 140737488355328 → (∀ u ∈ vs, scal u = true) → (∀ j u, vs[j]? = some u → w.cell? ⟨b, off + j, none⟩ = some u) →
      Calls P f #[.slice (some ⟨b, off, none⟩) n c] w fun e' w' => ∃ v', e' = .returned v' ∧ w'.ownsRow w.heap.size e (Enc.sz α) v' n vs ∧ Below w.heap.size w w') :
    PC P f (specP (X := List α × Unit) fun x => lib_Clone bytes x.1) := by
  refine ⟨hE, fun args r hr G w vals hG hL hage hA => ?_⟩
  unfold specP at hr
  split at hr
  · rename_i hx
    obtain ⟨y, hy, rfl⟩ := Option.map_eq_some_iff.1 hr
    have ha := Classical.choose_spec hx
    generalize Classical.choose hx = x at hy ha
    subst ha
    obtain ⟨xs, _⟩ := x
    simp only [lib_Clone] at hy
    obtain ⟨_, hroom, hy⟩ := Option.bind_eq_some_iff.1 hy
    obtain rfl : xs = y := by simpa using hy
    have hb := room_ok hroom
    obtain ⟨v, rfl, hv⟩ := one_arg (x := av .shr xs) hA
    have hv : RD w G (.slot 0 0) .shr [] (.sl xs.length ((flL xs).map D.sc)) v := by
      have := hv 0 0
      rw [← encL_flat]
      exact this
    have hret : Res.res xs = AV.one (C.ofD .own (.sl xs.length ((flL xs).map D.sc))) := by rw [← encL_flat]; rfl
    rw [hret]
    rcases row_came hv with ⟨h1, h2, a, cap, rfl⟩ | ⟨h1, h2, hsc, b, off, cap, rfl, hc⟩
    · rw [h1, h2]
      have he : ∀ (w' : World) (a : Option Addr), Below w.heap.size w w' → ∃ v G', Ending.returned (.slice a 0 0) = .returned v ∧ RA w' G' .ret (.one (C.ofD .own (.sl 0 (([] : List Value).map D.sc)))) v ∧ w.heap.size ≤ w'.heap.size ∧ Kept w w' ∧
          (∀ b, b < w.heap.size → w'.heap[b]? = w.heap[b]? ∧ G'.own b = G.own b ∧ G'.use b = G.use b) ∧ ∀ b t, G'.own b = some t → b < w'.heap.size := fun w' a hb =>
        ⟨_, G, rfl, empty_back, hb.size, below_kept hb hb.size, fun b hlt => ⟨hb.block b hlt, rfl, rfl⟩, fun b t ho => Nat.lt_of_lt_of_le (hG b t ho).2 hb.size⟩
      cases a with
      | none => exact (hnil 0 cap w).mono fun e w' hh => by obtain ⟨rfl, rfl⟩ := hh; exact he _ _ (Below.refl _ _)
      | some a => exact (hzero a cap w).mono fun e w' hh => by obtain ⟨b, rfl, hb⟩ := hh; exact he _ _ hb
    · have hl := flL_length xs
      refine (hrow b off xs.length cap (flL xs) w hl (by have := Nat.mul_le_mul_left xs.length (Nat.le_succ bytes); rw [← Nat.succ_eq_add_one] at hb; simp only [maxBytes] at hb; omega) hsc hc).mono fun e w' hh => ?_
      obtain ⟨v', rfl, hown, hbel⟩ := hh
      obtain ⟨G', g1, g2, g3⟩ := row_back (G := G) hown h1 (Enc.pos (α := α)) hl hsc (fun b t ho => (hG b t ho).2) hbel.size
      exact ⟨v', G', rfl, g1, hbel.size, below_kept hbel hbel.size, fun b hlt => ⟨hbel.block b hlt, g2 b hlt⟩, g3⟩
  · cases hr

/-- lengths and cells of the rows that lie ahead -/
def tot (nn : Nat → Nat) : Nat → Nat
  | 0 => 0
  | j + 1 => tot nn j + nn j
def cat (ne : Nat → List Value) : Nat → List Value
  | 0 => []
  | j + 1 => cat ne j ++ ne j
theorem tot_mono (nn : Nat → Nat) : ∀ {i j}, i ≤ j → tot nn i ≤ tot nn j
  | i, 0, h => by obtain rfl : i = 0 := by omega
                  exact Nat.le_refl _
  | i, j + 1, h => by
    rcases Nat.lt_or_ge i (j + 1) with h' | h'
    · exact Nat.le_trans (tot_mono nn (i := i) (j := j) (by omega)) (Nat.le_add_right _ _)
    · obtain rfl : i = j + 1 := by omega
      exact Nat.le_refl _
/-- a row: nothing, or cells -/
def RowAt (w : World) (sz : Nat) (a : Option Addr) (m : Nat) (news : List Value) : Prop :=
  news.length = m * sz ∧ (∀ u ∈ news, scal u = true) ∧ (m = 0 ∨ ∃ b off, a = some ⟨b, off, none⟩ ∧ ∀ j u, news[j]? = some u → w.cell? ⟨b, off + j, none⟩ = some u)
theorem scal_one {u : Value} (h : scal u = true) : u.oneCell' = true := by cases u <;> first | rfl | cases h

theorem run_append_rowAt {P : Program} {w w0 : World} (base : Nat) (t ty e : TypeId) (i : TypeInfo) (z : Value) (size bytes : Nat) (ht : P.underlying t = some (.slice e)) (hi : P.info? e = some i) (hz : i.zero = some z)
    (hsize : i.size = size) (hby : i.bytes = bytes) (hzs : z.cells.size = size) (hsz : 0 < size)
    (v : Value) (n : Nat) (xs : List Value) (hown : w.ownsRow base e size v n xs) (a : Option Addr) (m c : Nat) (news : List Value) (hrow : RowAt w0 size a m news) (hbel : ∀ k, k < w0.heap.size → w.heap[k]? = w0.heap[k]?)
    (h63 : n + m ≤ maxLen) (hbytes : (n + m) * bytes ≤ 140737488355328) (hbase : base ≤ w.heap.size) :
    ∃ v' w', (Builtin.append_ #[t, t] ty #[v, .slice a m c]).run P w = .ok v' w' ∧ w'.ownsRow base e size v' (n + m) (xs ++ news) ∧ w.grownBy w' v.ownBlock ∧ (m = 0 → v' = v) := by
  obtain ⟨hl, hsc, hr⟩ := hrow
  rcases hr with h0 | ⟨b, off, rfl, hc⟩
  · subst h0
    have hnews : news = [] := List.length_eq_zero_iff.1 (by simpa using hl)
    subst hnews
    refine ⟨v, w, ?_, by simpa using hown, ⟨rfl, rfl, rfl, Nat.le_refl _, fun _ _ _ => rfl⟩, fun _ => rfl⟩
    rcases hown.2 with ⟨rfl, rfl⟩ | ⟨g, cap, cur, rfl, _, _, hnc, _⟩
    · exact run_append_zero t ty e i ht hi none 0 0 (Nat.le_refl _) a c
    · exact run_append_zero t ty e i ht hi _ n cap hnc a c
  · rcases Nat.eq_zero_or_pos m with h0 | hm
    · subst h0
      have hnews : news = [] := List.length_eq_zero_iff.1 (by simpa using hl)
      subst hnews
      refine ⟨v, w, ?_, by simpa using hown, ⟨rfl, rfl, rfl, Nat.le_refl _, fun _ _ _ => rfl⟩, fun _ => rfl⟩
      rcases hown.2 with ⟨rfl, rfl⟩ | ⟨g, cap, cur, rfl, _, _, hnc, _⟩
      · exact run_append_zero t ty e i ht hi none 0 0 (Nat.le_refl _) _ c
      · exact run_append_zero t ty e i ht hi _ n cap hnc _ c
    · obtain ⟨v', w', h1, h2, h3, _⟩ := run_append_own w base t ty e i z size bytes ht hi hz hsize hby hzs hsz v n xs hown ⟨b, off, none⟩ m c news hl (fun j u hj => by
        rw [Addr.add_lit]
        have := hc j u hj
        have hlt : b < w0.heap.size := World.block_lt_of_cell? _ _ this
        rw [← this]
        exact World.cell?_of_block (hbel b hlt)) (fun u hu => scal_one (hsc u hu)) h63 hbytes hbase
      exact ⟨v', w', h1, h2, h3, fun h0 => by omega⟩


theorem wrap_add {a b : Nat} (h : a + b ≤ maxLen) : wrap64 ((a : Int) + (b : Int)) = ((a + b : Nat) : Int) := by
  unfold maxLen at h
  unfold wrap64
  omega


theorem take_snoc {α : Type} {xss : List (List α)} {j : Nat} (h : j < xss.length) : (xss.take (j + 1)).flatten = (xss.take j).flatten ++ xss.getD j [] := by
  rw [List.take_add_one, List.getElem?_eq_getElem h, List.flatten_append]
  simp [List.getD, List.getElem?_eq_getElem h]
theorem tot_take {α : Type} (xss : List (List α)) : ∀ j, j ≤ xss.length → tot (fun i => (xss.getD i []).length) j = (xss.take j).flatten.length
  | 0, _ => rfl
  | j + 1, h => by rw [tot, tot_take xss j (by omega), take_snoc (by omega), List.length_append]
theorem cat_take {α : Type} [Enc α] [FlatE α] (xss : List (List α)) : ∀ j, j ≤ xss.length → cat (fun i => flL (xss.getD i [])) j = flL (xss.take j).flatten
  | 0, _ => rfl
  | j + 1, h => by rw [cat, cat_take xss j (by omega), take_snoc (by omega), flL_append]
theorem encLL {α : Type} [Enc α] (xss : List (List α)) : encL xss = xss.map fun xs => D.sl xs.length (encL xs) := by
  induction xss with
  | nil => rfl
  | cons x xs ih => rw [encL_cons, ih]; rfl

/-- slices.Concat of rows without rows in them -/
def lib_Concat {α : Type} (bytes : Nat) (s : List (List α)) : Option (List α) := (room s.length 24).bind fun _ => (room s.flatten.length bytes).bind fun _ => some s.flatten

theorem pc_concat {P : Program} {f : Nat} {α : Type} [Enc α] [FlatE α] {e : TypeId} {bytes : Nat} (hE : Enters P f)
    (hwalk : ∀ (xa : Option Addr) (xb xo N xc : Nat) (ra : Nat → Option Addr) (nn rc : Nat → Nat) (ne : Nat → List Value) (w : World), (0 < N → xa = some ⟨xb, xo, none⟩) → N ≤ maxLen →
      (∀ j, j < N → w.cell? ⟨xb, xo + j, none⟩ = some (.slice (ra j) (nn j) (rc j))) → (∀ j, j < N → RowAt w (Enc.sz α) (ra j) (nn j) (ne j)) → tot nn N * bytes ≤ 140737488355328 →
      Calls P f #[.slice xa N xc] w fun e' w' => ∃ v, e' = .returned v ∧ w'.ownsRow w.heap.size e (Enc.sz α) v (tot nn N) (cat ne N) ∧ (tot nn N = 0 → v = .slice none 0 0) ∧ Below w.heap.size w w') :
    PC P f (specP (X := List (List α) × Unit) fun x => lib_Concat bytes x.1) := by
  refine ⟨hE, fun args r hr G w vals hG hL hage hA => ?_⟩
  unfold specP at hr
  split at hr
  · rename_i hx
    obtain ⟨y, hy, rfl⟩ := Option.map_eq_some_iff.1 hr
    have ha := Classical.choose_spec hx
    generalize Classical.choose hx = x at hy ha
    subst ha
    obtain ⟨xss, _⟩ := x
    simp only [lib_Concat] at hy
    obtain ⟨_, hroom0, hy⟩ := Option.bind_eq_some_iff.1 hy
    obtain ⟨_, hroom, hy⟩ := Option.bind_eq_some_iff.1 hy
    obtain rfl : xss.flatten = y := by simpa using hy
    have hb0 := room_ok hroom0
    have hb := room_ok hroom
    obtain ⟨v, rfl, hv⟩ := one_arg (x := av .shr xss) hA
    have hv : RD w G (.slot 0 0) .shr [] (.sl xss.length (encL xss)) v := hv 0 0
    have hret : Res.res xss.flatten = AV.one (C.ofD .own (.sl xss.flatten.length ((flL xss.flatten).map D.sc))) := by rw [← encL_flat]; rfl
    rw [hret]
    have key : ∃ (xa : Option Addr) (xb xo xc : Nat) (ra : Nat → Option Addr) (rc : Nat → Nat), v = .slice xa xss.length xc ∧ (0 < xss.length → xa = some ⟨xb, xo, none⟩) ∧
        (∀ j, j < xss.length → w.cell? ⟨xb, xo + j, none⟩ = some (.slice (ra j) ((xss.getD j []).length) (rc j))) ∧ (∀ j, j < xss.length → RowAt w (Enc.sz α) (ra j) ((xss.getD j []).length) (flL (xss.getD j []))) := by
      rw [RD] at hv
      rcases hv with ⟨h1, h2, a, cap, rfl, _⟩ | ⟨h1, h2, b, off, cap, rfl, hcap, _, hs⟩
      · refine ⟨a, 0, 0, cap, fun _ => none, fun _ => 0, by rw [h2], fun h => by omega, fun j h => by omega, fun j h => by omega⟩
      · have hg : ∀ j, ∃ a c, j < xss.length → w.cell? ⟨b, off + j, none⟩ = some (.slice a ((xss.getD j []).length) c) ∧ RowAt w (Enc.sz α) a ((xss.getD j []).length) (flL (xss.getD j [])) := by
          intro j
          by_cases hj : j < xss.length
          · have hd : (encL xss)[j]? = some (.sl xss[j].length ((flL xss[j]).map D.sc)) := by
              rw [encLL, List.getElem?_map, List.getElem?_eq_getElem hj, Option.map_some, encL_flat]
            obtain ⟨u, hu, hru⟩ := RDs_get hs j _ hd
            rw [Nat.zero_add] at hu
            have hl := flL_length xss[j]
            simp only [List.getD, List.getElem?_eq_getElem hj, Option.getD_some]
            rcases row_came hru with ⟨h3, h4, a, c, rfl⟩ | ⟨h3, h4, hsc, b2, off2, c, rfl, hc⟩
            · exact ⟨a, c, fun _ => ⟨by rw [hu, h3], ⟨hl, fun u hu => by rw [h4] at hu; simp at hu, .inl h3⟩⟩⟩
            · exact ⟨some ⟨b2, off2, none⟩, c, fun _ => ⟨hu, ⟨hl, hsc, .inr ⟨b2, off2, rfl, hc⟩⟩⟩⟩
          · exact ⟨none, 0, fun h => absurd h hj⟩
        refine ⟨some ⟨b, off, none⟩, b, off, cap, fun j => Classical.choose (hg j), fun j => Classical.choose (Classical.choose_spec (hg j)), rfl, fun _ => rfl, fun j hj => ?_, fun j hj => ?_⟩
        · exact (Classical.choose_spec (Classical.choose_spec (hg j)) hj).1
        · exact (Classical.choose_spec (Classical.choose_spec (hg j)) hj).2
    obtain ⟨xa, xb, xo, xc, ra, rc, rfl, k1, k2, k3⟩ := key
    have ht := tot_take xss xss.length (Nat.le_refl _)
    have hcat := cat_take xss xss.length (Nat.le_refl _)
    rw [List.take_length] at ht hcat
    have hw := hwalk xa xb xo xss.length xc ra (fun i => (xss.getD i []).length) rc (fun i => flL (xss.getD i [])) w k1 (by simp only [maxBytes] at hb0; unfold maxLen; omega) k2 k3
      (by rw [ht]; have := Nat.mul_le_mul_left xss.flatten.length (Nat.le_succ bytes); rw [← Nat.succ_eq_add_one] at hb; simp only [maxBytes] at hb; omega)
    rw [ht, hcat] at hw
    refine hw.mono fun e w' hh => ?_
    obtain ⟨v', rfl, hown, hnil, hbel⟩ := hh
    rcases Nat.eq_zero_or_pos xss.flatten.length with h0 | h0
    · rw [hnil h0, List.length_eq_zero_iff.1 h0]
      exact ⟨_, G, rfl, empty_back, hbel.size, below_kept hbel hbel.size, fun b hlt => ⟨hbel.block b hlt, rfl, rfl⟩, fun b t ho => Nat.lt_of_lt_of_le (hG b t ho).2 hbel.size⟩
    · have hsc : ∀ u ∈ flL xss.flatten, scal u = true := by
        intro u hu
        obtain ⟨x, _, hx⟩ := List.mem_flatMap.1 hu
        exact FlatE.sc x u hx
      obtain ⟨G', g1, g2, g3⟩ := row_back (G := G) hown h0 (Enc.pos (α := α)) (flL_length _) hsc (fun b t ho => (hG b t ho).2) hbel.size
      exact ⟨v', G', rfl, g1, hbel.size, below_kept hbel hbel.size, fun b hlt => ⟨hbel.block b hlt, g2 b hlt⟩, g3⟩
  · cases hr

end Go.Ev
