import Derived.Test.YtahcfnjgllpkdaaEvRun5
import GoSem.ClaimChange
import Derived.ChangeArms
import Derived.DataElems
import Derived.WideShapes
import Derived.ChangeSame
set_option linter.unusedSimpArgs false
set_option linter.unusedVariables false
set_option linter.unnecessarySimpa false
namespace Go.Ev
open Go.WideShapes

/-- fields that lie side by side -/
def tiles (P : Program) : Nat → List Field → Option Nat
  | off, [] => some off
  | off, f :: r => if f.offset = off then tiles P (off + P.cellsOf f.type) r else none

/-- a closed set of plain types: 64 bit integers, bools, strings, slices and structs of such -/
def plainB (P : Program) (L : List Nat) (t : Nat) : Bool := match P.underlying t with
  | some (.int .i64) | some .bool | some .string => true
  | some (.slice e) => L.contains e && decide (0 < P.cellsOf e)
  | some (.struct fs) => (fs.all fun f => L.contains f.type) && tiles P 0 fs.toList == some (P.cellsOf t)
  | _ => false
def closedB (P : Program) (L : List Nat) : Bool := L.all (plainB P L)

/-- a row of cells, read as a type's data -/
inductive Typed (P : Program) : Nat → List D → Prop
  | int {t : Nat} (n : Int) (ht : P.underlying t = some (.int .i64)) (hn : (Lit.int .i64 n).wf = true) : Typed P t [.sc (.int .i64 n)]
  | bool {t : Nat} (b : Bool) (ht : P.underlying t = some .bool) : Typed P t [.sc (.bool b)]
  | string {t : Nat} (s : ByteArray) (ht : P.underlying t = some .string) (hs : s.size ≤ maxLen) : Typed P t [.sc (.string s)]
  | slice {t e : Nat} (ht : P.underlying t = some (.slice e)) (xs : List (List D)) (hx : ∀ x ∈ xs, Typed P e x) (hxl : ∀ x ∈ xs, x.length = P.cellsOf e) (hn : xs.length ≤ maxLen) : Typed P t [.sl xs.length xs.flatten]
  | struct {t : Nat} {fs : Array Field} (ht : P.underlying t = some (.struct fs)) (xs : List (List D)) (hl : xs.length = fs.toList.length) (hx : ∀ (i : Nat) (f : Field) x, fs.toList[i]? = some f → xs[i]? = some x → Typed P f.type x)
      (hxl : ∀ (i : Nat) (f : Field) x, fs.toList[i]? = some f → xs[i]? = some x → x.length = P.cellsOf f.type) : Typed P t xs.flatten

theorem tiles_len {P : Program} : ∀ {fs : List Field} {xs : List (List D)} {off tot : Nat}, tiles P off fs = some tot → xs.length = fs.length → (∀ (i : Nat) (f : Field) x, fs[i]? = some f → xs[i]? = some x → x.length = P.cellsOf f.type) → off + xs.flatten.length = tot
  | [], xs, off, tot, h, hl, _ => by
    have : xs = [] := List.length_eq_zero_iff.1 hl
    subst this
    simp only [tiles, Option.some.injEq] at h
    simp [h]
  | f :: fs, [], off, tot, h, hl, _ => by simp at hl
  | f :: fs, x :: xs, off, tot, h, hl, hx => by
    simp only [tiles] at h
    split at h
    · have h0 := hx 0 f x rfl rfl
      have := tiles_len h (by simpa using hl) fun i f x hf hx' => hx (i + 1) f x hf hx'
      rw [List.flatten_cons, List.length_append, h0]
      omega
    · cases h

theorem tiles_get {P : Program} : ∀ {fs : List Field} {xs : List (List D)} {off tot : Nat}, tiles P off fs = some tot → xs.length = fs.length → (∀ (i : Nat) (f : Field) x, fs[i]? = some f → xs[i]? = some x → x.length = P.cellsOf f.type) →
    ∀ (j : Nat) d, xs.flatten[j]? = some d → ∃ (i : Nat) (f : Field) (x : List D) (k : Nat), fs[i]? = some f ∧ xs[i]? = some x ∧ x[k]? = some d ∧ off + j = f.offset + k
  | [], xs, off, tot, h, hl, _, j, d, hd => by
    have : xs = [] := List.length_eq_zero_iff.1 hl
    subst this
    simp at hd
  | f :: fs, [], off, tot, h, hl, _, j, d, hd => by simp at hl
  | f :: fs, x :: xs, off, tot, h, hl, hx, j, d, hd => by
    simp only [tiles] at h
    split at h
    · rename_i hof
      have h0 := hx 0 f x rfl rfl
      rw [List.flatten_cons, List.getElem?_append] at hd
      split at hd
      · exact ⟨0, f, x, j, rfl, rfl, hd, by omega⟩
      · obtain ⟨i, f', x', k, h1, h2, h3, h4⟩ := tiles_get h (by simpa using hl) (fun i f x hf hx' => hx (i + 1) f x hf hx') _ d hd
        exact ⟨i + 1, f', x', k, h1, h2, h3, by omega⟩
    · cases h

theorem mapM_range {α : Type} {F : Nat → Option α} : ∀ {n : Nat} {r : List α}, (List.range n).mapM F = some r → r.length = n ∧ ∀ (i : Nat) x, r[i]? = some x → F i = some x := by
  intro n r h
  obtain ⟨h1, h2⟩ := mapM_get h
  rw [List.length_range] at h1
  refine ⟨h1, fun i x hi => ?_⟩
  obtain ⟨y, hy, hF⟩ := h2 i x hi
  have hlt : i < n := by rw [← h1]; exact (List.getElem?_eq_some_iff.1 hi).1
  rw [List.getElem?_range hlt] at hy
  cases hy
  exact hF

theorem cells?_get {w : World} {base n : Nat} {a : Addr} {cs : List Value} (h : w.cells? base a n = some cs) : cs.length = n ∧ ∀ (i : Nat) x, cs[i]? = some x → w.cell? (a.add i) = some x := by
  unfold World.cells? at h
  split at h
  · exact mapM_range h
  · cases h

/-- the account in which nothing is owned -/
def gh0 (w : World) : Gh where
  own := fun _ => none
  use := fun b => match w.heap[b]? with | some (.cells arr _ _) => arr.size | _ => 0
  β := fun _ => 0
  live := fun _ => False
  age := fun _ => 0
  cap := fun _ => 0

theorem use_gh0 {w : World} {b off : Nat} {v : Value} (h : w.cell? ⟨b, off, none⟩ = some v) : off < (gh0 w).use b := by
  unfold World.cell? at h
  show off < match w.heap[b]? with | some (.cells arr _ _) => arr.size | _ => 0
  split at h
  · rename_i c _ _ hc
    simp only [Option.isSome_none, Bool.false_eq_true, if_false] at h
    rw [hc]
    exact (Array.getElem?_eq_some_iff.1 h).1
  · cases h

theorem spot_none {w : World} {a : Addr} {v : Value} (h : w.cell? a = some v) : a.spot = none := by
  unfold World.cell? at h
  split at h
  · split at h
    · cases h
    · rename_i hs; simpa using hs
  · cases h

theorem flat_len {n : Nat} : ∀ (l : List (List D)), (∀ x ∈ l, x.length = n) → l.flatten.length = l.length * n
  | [], _ => by simp
  | x :: l, h => by rw [List.flatten_cons, List.length_append, h x (List.mem_cons_self ..), flat_len l fun y hy => h y (List.mem_cons_of_mem _ hy), List.length_cons, Nat.add_mul, Nat.one_mul, Nat.add_comm]

theorem flat_get {n : Nat} (hpos : 0 < n) : ∀ (l : List (List D)), (∀ x ∈ l, x.length = n) → ∀ {i : Nat} {d : D}, l.flatten[i]? = some d → ∃ x, l[i / n]? = some x ∧ x[i % n]? = some d
  | [], _, i, d, hd => by simp at hd
  | x :: l, hl, i, d, hd => by
    have hx := hl x (List.mem_cons_self ..)
    rw [List.flatten_cons, List.getElem?_append] at hd
    split at hd
    · rename_i hlt
      rw [hx] at hlt
      rw [Nat.div_eq_of_lt hlt, Nat.mod_eq_of_lt hlt]
      exact ⟨x, rfl, hd⟩
    · rename_i hge
      rw [hx] at hge hd
      obtain ⟨y, hy1, hy2⟩ := flat_get hpos l (fun y hy => hl y (List.mem_cons_of_mem _ hy)) hd
      have hdiv : i / n = (i - n) / n + 1 := by
        rw [Nat.div_eq i, if_pos ⟨hpos, by omega⟩]
      refine ⟨y, by rw [hdiv, List.getElem?_cons_succ]; exact hy1, ?_⟩
      rw [← Nat.mod_eq_sub_mod (by omega)] at hy2
      exact hy2

/-- what an argument reads as, told as data -/
theorem trod_typed {H : Type} {enc : TypeId × Value → H} {P : Program} {w : World} {base : Nat} {spare : Nat → Bool} {held : Bool} {L : List Nat} (hL : closedB P L = true) :
    ∀ (fuel : Nat) (t : Nat) (cs : List Value) (x : DataW H × List MemPlace), t ∈ L → DataW.trod enc P w base spare held fuel t cs = some x →
      ∃ ds, Typed P t ds ∧ ds.length = cs.length ∧ ∀ (j : Nat) d v, ds[j]? = some d → cs[j]? = some v → ∀ o p, RD w (gh0 w) o .shr p d v
  | 0, t, cs, x, _, h => by simp [DataW.trod] at h
  | fuel + 1, t, cs, x, ht, h => by
    have hp : plainB P L t = true := by
      unfold closedB at hL
      rw [List.all_eq_true] at hL
      exact hL t ht
    have one : ∀ (d : D) (v : Value), (∀ o p, RD w (gh0 w) o .shr p d v) → ∀ (j : Nat) d' v', ([d] : List D)[j]? = some d' → ([v] : List Value)[j]? = some v' → ∀ o p, RD w (gh0 w) o .shr p d' v' := by
      intro d v hr j d' v' h1 h2
      cases j with
      | zero => cases h1; cases h2; exact hr
      | succ j => simp at h1
    unfold plainB at hp
    cases hu : P.underlying t with
    | none => rw [hu] at hp; simp at hp
    | some desc =>
    rw [hu] at hp
    cases desc with
    | bool =>
      obtain ⟨b, rfl, _⟩ := DataW.trod_bool hu h
      exact ⟨[.sc (.bool b)], .bool b hu, rfl, one _ _ fun o p => by rw [RD]; exact ⟨rfl, rfl⟩⟩
    | int k =>
      have hk : k = .i64 := by cases k <;> first | rfl | simp at hp
      subst hk
      obtain ⟨n, rfl, _, hwf⟩ := DataW.trod_int hu h
      exact ⟨[.sc (.int .i64 n)], .int n hu hwf, rfl, one _ _ fun o p => by rw [RD]; exact ⟨rfl, rfl⟩⟩
    | string =>
      obtain ⟨s, rfl, _, hs⟩ := DataW.trod_string hu h
      exact ⟨[.sc (.string s)], .string s hu hs, rfl, one _ _ fun o p => by rw [RD]; exact ⟨rfl, rfl⟩⟩
    | slice e =>
      simp only [Bool.and_eq_true, List.contains_eq_mem, decide_eq_true_eq] at hp
      obtain ⟨heL, hpos⟩ := hp
      rcases DataW.trod_slice hu h with ⟨rfl, _⟩ | ⟨a, len, cap, elems, rest, n, hn, rfl, _, hb, hlc, hcm, hel, heg, _, _⟩
      · exact ⟨[.sl 0 []], by simpa using Typed.slice hu [] (fun x hx => by cases hx) (fun x hx => by cases hx) (Nat.zero_le _), rfl, one _ _ fun o p => by rw [RD]; exact .inl ⟨rfl, rfl, none, 0, rfl, by simp [Md.isOwn]⟩⟩
      · have hn' : n = fuel := by omega
        subst hn'
        have helem : ∀ i, i < len → ∃ ds, (Typed P e ds ∧ ds.length = P.cellsOf e) ∧ ∀ (j : Nat) d, ds[j]? = some d → ∃ v, w.cell? ((a.add (i * P.cellsOf e)).add j) = some v ∧ ∀ o p, RD w (gh0 w) o .shr p d v := by
          intro i hi
          have hx := heg i hi
          rw [List.getElem?_eq_getElem (by omega), Option.bind_eq_some_iff] at hx
          obtain ⟨cs', hcs', hx⟩ := hx
          obtain ⟨hcl, hcg⟩ := cells?_get hcs'
          obtain ⟨ds, h1, h2, h3⟩ := trod_typed hL n e cs' _ heL hx
          refine ⟨ds, ⟨h1, by rw [h2, hcl]⟩, fun j d hj => ?_⟩
          have hjl : j < cs'.length := by rw [← h2]; exact (List.getElem?_eq_some_iff.1 hj).1
          have hv := List.getElem?_eq_getElem hjl
          exact ⟨_, hcg j _ hv, h3 j d _ hj hv⟩
        obtain ⟨xs, hxl, hxg⟩ := choose_list len helem
        have hlen : ∀ x ∈ xs, x.length = P.cellsOf e := fun x hx => by
          obtain ⟨i, hi⟩ := List.getElem?_of_mem hx
          exact (hxg i x hi).1.2
        refine ⟨[.sl len xs.flatten], ?_, rfl, one _ _ fun o p => ?_⟩
        · have := Typed.slice hu xs (fun x hx => by
            obtain ⟨i, hi⟩ := List.getElem?_of_mem hx
            exact (hxg i x hi).1.1) hlen (by omega)
          rwa [hxl] at this
        · rw [RD]
          by_cases h0 : len = 0
          · left
            subst h0
            have : xs = [] := List.length_eq_zero_iff.1 hxl
            subst this
            exact ⟨rfl, rfl, some a, cap, rfl, by simp [Md.isOwn]⟩
          · right
            have hfl : xs.flatten.length = len * P.cellsOf e := by
              rw [← hxl]
              exact flat_len xs hlen
            have hcells : ∀ (i : Nat) d, xs.flatten[i]? = some d → ∃ v, w.cell? (a.add i) = some v ∧ ∀ o p, RD w (gh0 w) o .shr p d v := by
              intro i d hi
              obtain ⟨x, hx1, hx2⟩ := flat_get hpos xs hlen hi
              obtain ⟨v, hv, hr⟩ := (hxg _ x hx1).2 _ d hx2
              refine ⟨v, ?_, hr⟩
              have hi' : i / P.cellsOf e * P.cellsOf e + i % P.cellsOf e = i := by rw [Nat.mul_comm]; exact Nat.div_add_mod i _
              rw [Addr.add_add, hi'] at hv
              exact hv
            have hflpos : 0 < xs.flatten.length := by rw [hfl]; exact Nat.mul_pos (Nat.pos_of_ne_zero h0) hpos
            obtain ⟨v0, hv0, _⟩ := hcells 0 _ (List.getElem?_eq_getElem hflpos)
            have hsp : a.spot = none := spot_none hv0
            have ha : a = ⟨a.block, a.off, none⟩ := by cases a; simp only at hsp; subst hsp; rfl
            have hadd : ∀ i, a.add i = ⟨a.block, a.off + i, none⟩ := fun i => by rw [ha, Addr.add_lit]
            refine ⟨by intro he; rw [he] at hflpos; exact absurd hflpos (by simp), Nat.pos_of_ne_zero h0, a.block, a.off, cap, by rw [← ha], hlc, ⟨rfl, ?_⟩, RDs_of fun j x hj => ?_⟩
            · obtain ⟨v, hv, _⟩ := hcells (xs.flatten.length - 1) _ (List.getElem?_eq_getElem (by omega))
              rw [hadd] at hv
              have := use_gh0 hv
              omega
            · obtain ⟨v, hv, hr⟩ := hcells j x hj
              rw [hadd] at hv
              exact ⟨v, by rw [Nat.zero_add]; exact hv, hr _ _⟩
    | struct fs =>
      simp only [Bool.and_eq_true, beq_iff_eq] at hp
      obtain ⟨hfL, htile⟩ := hp
      rw [Array.all_eq_true_iff_forall_mem] at hfL
      obtain ⟨xs0, n, hn, _, hcl, hxl0, hfg⟩ := DataW.trod_struct hu h
      have hn' : n = fuel := by omega
      subst hn'
      have helem : ∀ i, i < fs.toList.length → ∃ ds, ∀ f, fs.toList[i]? = some f → Typed P f.type ds ∧ ds.length = ((cs.drop f.offset).take (P.cellsOf f.type)).length ∧
          ∀ (j : Nat) d v, ds[j]? = some d → ((cs.drop f.offset).take (P.cellsOf f.type))[j]? = some v → ∀ o p, RD w (gh0 w) o .shr p d v := by
        intro i hi
        have hf : fs[i]? = some fs.toList[i] := by rw [← Array.getElem?_toList]; exact List.getElem?_eq_getElem hi
        have hx := hfg i _ hf
        rw [List.getElem?_eq_getElem (by rw [hxl0]; simpa using hi)] at hx
        obtain ⟨ds, h1, h2, h3⟩ := trod_typed hL n _ _ _ (by have hm := hfL fs.toList[i] (by simp); simpa using hm) hx
        exact ⟨ds, fun f hf' => by rw [List.getElem?_eq_getElem hi] at hf'; cases hf'; exact ⟨h1, h2, h3⟩⟩
      obtain ⟨xs, hxl, hxg⟩ := choose_list fs.toList.length helem
      have hin : ∀ (l : List Field) (off tot : Nat), tiles P off l = some tot → off ≤ tot ∧ ∀ f ∈ l, f.offset + P.cellsOf f.type ≤ tot := by
        intro l
        induction l with
        | nil => intro off tot ht; simp only [tiles, Option.some.injEq] at ht; exact ⟨by omega, fun f hf => by cases hf⟩
        | cons f l ih =>
          intro off tot ht
          simp only [tiles] at ht
          split at ht
          · rename_i hof
            obtain ⟨a1, a2⟩ := ih _ _ ht
            exact ⟨by omega, fun f' hf' => by
              cases hf' with
              | head => omega
              | tail _ hm => exact a2 f' hm⟩
          · cases ht
      have hlens : ∀ (i : Nat) (f : Field) x, fs.toList[i]? = some f → xs[i]? = some x → x.length = P.cellsOf f.type := by
        intro i f x hf hx
        have h1 := (hxg i x hx f hf).2.1
        have h2 := (hin _ _ _ htile).2 f (List.mem_of_getElem? hf)
        rw [h1, List.length_take, List.length_drop, hcl]
        omega
      refine ⟨xs.flatten, Typed.struct hu xs hxl (fun i f x hf hx => (hxg i x hx f hf).1) hlens, ?_, fun j d v hd hv o p => ?_⟩
      · have := tiles_len htile hxl hlens
        rw [hcl]; omega
      · obtain ⟨i, f, x, k, h1, h2, h3, h4⟩ := tiles_get htile hxl hlens j d hd
        refine (hxg i x h2 f h1).2.2 k d v h3 ?_ o p
        have hk : k < P.cellsOf f.type := by rw [← hlens i f x h1 h2]; exact (List.getElem?_eq_some_iff.1 h3).1
        rw [List.getElem?_take, if_pos hk, List.getElem?_drop, ← hv]
        congr 1
        omega
    | _ => simp at hp

/-- an argument, as the evaluator takes it -/
def argAV (P : Program) (t : Nat) (ds : List D) : AV := match P.underlying t with
  | some (.struct _) => .ag (ds.map (C.ofD .shr))
  | _ => match ds with
    | [d] => .one (C.ofD .shr d)
    | _ => .dead

theorem arg_ok {H : Type} {enc : TypeId × Value → H} {P : Program} {w : World} {base b0 : Nat} {r : Reach} {spare : Nat → Bool} {held : Bool} {L : List Nat} (hL : closedB P L = true) {t : Nat} (ht : t ∈ L) {v : Value} {d : DataW H} {ps : List MemPlace}
    (hval : Value.okWide P w r b0 t v) (hd : DataW.Trod enc P w base spare held t v d ps) : ∃ ds, Typed P t ds ∧ ∀ o, RA w (gh0 w) o (argAV P t ds) v := by
  obtain ⟨fuel, hf⟩ := hd
  obtain ⟨ds, h1, h2, h3⟩ := trod_typed hL fuel t _ _ ht hf
  refine ⟨ds, h1, fun o => ?_⟩
  have one : ∀ u : Value, v = u → u.cells = #[u] → (∀ fs, P.underlying t ≠ some (.struct fs)) → RA w (gh0 w) o (argAV P t ds) v := by
    intro u hu hc hns
    subst hu
    rw [hc] at h2 h3
    obtain ⟨x, rfl⟩ : ∃ x, ds = [x] := List.length_eq_one_iff.1 (by simpa using h2)
    have : argAV P t [x] = .one (C.ofD .shr x) := by
      unfold argAV
      split
      · rename_i fs hfs; exact absurd hfs (hns fs)
      · rfl
    rw [this]
    exact RC_ofD (h3 0 x v rfl rfl o [])
  cases h1 with
  | int n hu hn => obtain ⟨m, rfl⟩ := okWide_int hu hval; exact one _ rfl rfl (fun fs h => by rw [hu] at h; cases h)
  | bool b hu => obtain ⟨m, rfl⟩ := okWide_bool hu hval; exact one _ rfl rfl (fun fs h => by rw [hu] at h; cases h)
  | string s hu hs => obtain ⟨m, rfl⟩ := okWide_string hu hval; exact one _ rfl rfl (fun fs h => by rw [hu] at h; cases h)
  | slice hu xs hx hxl hn => obtain ⟨a, len, cap, rfl⟩ := okWide_slice hu hval; exact one _ rfl rfl (fun fs h => by rw [hu] at h; cases h)
  | struct hu xs hl hx hxl =>
    obtain ⟨cs, rfl, _⟩ := okWide_struct hu hval
    have : argAV P t xs.flatten = .ag (xs.flatten.map (C.ofD .shr)) := by unfold argAV; rw [hu]
    rw [this]
    refine ⟨cs, rfl, by rw [List.length_map]; exact h2.symm, fun j c hj => ?_⟩
    rw [List.getElem?_map] at hj
    cases hx2 : xs.flatten[j]? with
    | none => rw [hx2] at hj; cases hj
    | some x =>
      rw [hx2] at hj
      cases hj
      have hjl : j < cs.toList.length := by
        have h2' : xs.flatten.length = cs.toList.length := h2
        rw [← h2']; exact (List.getElem?_eq_some_iff.1 hx2).1
      exact ⟨_, List.getElem?_eq_getElem hjl, RC_ofD (h3 j x _ hx2 (List.getElem?_eq_getElem hjl) o _)⟩

/-- what a law's contract gives: it returns true, and all that was there is as it was -/
theorem PC.law {P : Program} {f : Nat} {F : List AV → Option AV} (h : PC P f F) {w : World} {args : Array Value} {avs : List AV} (hF : F avs = some (.one (.s (.bool true)))) (hl : args.size = avs.length)
    (ha : ∀ (i : Nat) x v, avs[i]? = some x → args[i]? = some v → ∀ o, RA w (gh0 w) o x v) :
    Calls P f args w fun e w' => e = .returned (.bool true) ∧ Kept w w' ∧ w.heap.size ≤ w'.heap.size ∧ ∀ b, b < w.heap.size → w'.heap[b]? = w.heap[b]? := by
  refine (h.2 avs _ hF (gh0 w) w args (fun b t hb => by cases hb) (fun k hk => hk) (fun _ => rfl) ⟨hl, fun i x hi => ?_⟩).mono fun e w' he => ?_
  · have hlt : i < args.size := by rw [hl]; exact (List.getElem?_eq_some_iff.1 hi).1
    exact ⟨args[i], Array.getElem?_eq_getElem hlt, fun d t => ha i x _ hi (Array.getElem?_eq_getElem hlt) _⟩
  · obtain ⟨v, G', rfl, hR, hsz, hk, hold, _⟩ := he
    obtain ⟨rfl, _⟩ := hR
    exact ⟨rfl, hk, hsz, fun b hb => (hold b hb).1⟩

/-- a law that changes nothing: what it hands back is as the statement says (the frozen cells are asked for at the law's own places alone) -/
theorem post_read {H : Type} {enc : TypeId × Value → H} {P : Program} {f : Func} {s : ChangeSpec} {apart fresh handsOn again : Bool} {W W' : World} {args : Array Value} {v : Value} {ds gs : List (DataW H)} {pa : List MemPlace}
    (hW : DataW.Whole enc P f.params.toList s.vars apart W args.toList ds gs (pa ++ []))
    (hres : ∀ (b : Nat) (sp : Nat → Bool) (hd : Bool), DataW.TrodAll enc P W' b sp hd f.resultTypes.toList (v.resultList f.resultTypes.size) (s.fn H (ds ++ gs)).results [])
    (hargs : ∀ sp : Nat → Bool, (∀ p ∈ pa ++ ([] : List MemPlace), sp p.block = true) → DataW.TrodAll enc P W' 0 sp true f.params.toList args.toList (s.fn H (ds ++ gs)).args pa)
    (hvars : ∀ sp : Nat → Bool, DataW.TrodVars enc P W' sp s.vars (s.fn H (ds ++ gs)).vars [])
    (hk : W.keptBut W' (· ∈ pa ++ [])) (hfz : ∀ a : Addr, a.block < W.heap.size → W'.frozen? a = W.frozen? a)
    (hok : ∀ (j : Nat) (t : TypeId) (r : Value), f.resultTypes[j]? = some t → (v.resultList f.resultTypes.size)[j]? = some r → Value.okWide P W' .any 0 t r) :
    s.post enc P f apart fresh handsOn again W args v W' := by
  have hlt := hW.lt
  have hsp : ∀ p ∈ pa ++ ([] : List MemPlace), (fun b => decide (b < W.heap.size)) p.block = true := fun p hp => by simpa using hlt p hp
  have hkb : W.keptBut W' fun p => p ∈ pa ++ [] ∧ (p ∈ ([] : List MemPlace) ∨ p ∈ pa ++ []) := World.keptBut_mono (fun p hp => ⟨hp, .inr hp⟩) hk
  obtain ⟨x1, x2, x3, x4, x5, hz, hn⟩ := hW
  refine ⟨ds, gs, pa ++ [], [], pa, [], ⟨x1, x2, x3, x4, x5, hz, hn⟩, hres _ _ _, hargs _ hsp, hvars _, World.keptBut_mono (fun p hp => ⟨hp, by simpa using hp⟩) hk, fun _ => ⟨hok, _, _, ([] ++ pa) ++ [], ⟨[] ++ pa, [], ChangeShapes.trodAll_append (hargs _ fun _ _ => rfl) (hres _ _ _), hvars _, rfl, fun b off hp => ?_, fun ha => by simpa using hn ha⟩, fun p hp _ => by simpa using hp⟩⟩
  have hp' : MemPlace.cell b off ∈ pa ++ [] := by simpa using hp
  have hb : b < W.heap.size := hlt _ hp'
  rw [hfz _ hb]
  exact hz b off hp'

end Go.Ev
