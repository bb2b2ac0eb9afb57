import Derived.Test.YtahcfnjgllpkdaaEvRun1
set_option linter.unusedSimpArgs false
set_option linter.unusedVariables false
set_option linter.unnecessarySimpa false
namespace Go.Ev

/-- a contract: called with data that reads as 'args', f returns what reads as F's answer; nothing that was there is changed -/
def Enters (P : Program) (f : Nat) : Prop := ∃ fn, P.funcs[f]? = some fn ∧ fn.body.isSome = true ∧ (fn.name == "runtime.NumGoroutine") = false

structure MemOK (d : Nat) (G : Gh) (mem : Mem) (w : World) : Prop where
  cells : ∀ k cs, mem k = some cs → cs ≠ [] → ∃ arr e, w.heap[G.β k]? = some (.cells arr e (0, 0)) ∧ G.own (G.β k) = some (.box k) ∧ arr.size = G.cap k ∧ RCs w G (.cell k) [] 0 cs (arr.toList.take cs.length)
  live : ∀ k, G.live k ↔ (mem k).isSome = true
  dep : ∀ k, G.live k → k.1 ≤ d
  wf : ∀ b t, G.own b = some t → b < w.heap.size
  wfb : ∀ b k, G.own b = some (.box k) → G.live k ∧ G.β k = b
  wfc : ∀ b k p, G.own b = some (.at (.cell k) p) → G.live k
  age : ∀ b, G.age b ≤ d
  fut : ∀ b, w.heap.size ≤ b → G.age b = d
  aged : ∀ b t, G.own b = some t → t.dep d ≤ G.age b

theorem Sim.memOK {d N : Nat} {G : Gh} {σ : St} {tm : Array Value} {w : World} (h : Sim d N G σ tm w) : MemOK d G σ.mem w := ⟨h.mem, h.live, h.dep, h.wf, h.wfb, h.wfc, h.age, h.fut, h.aged⟩
theorem MemOK.sim {d N : Nat} {G : Gh} {σ : St} {tm : Array Value} {w : World} (h : MemOK d G σ.mem w) (hz : tm.size = N) (he : ∀ t, RA w G (.slot d t) (σ.env t) (tm.getD t undef)) : Sim d N G σ tm w :=
  ⟨hz, he, h.cells, h.live, h.dep, h.wf, h.wfb, h.wfc, h.age, h.fut, h.aged⟩

def ArgsOK (w : World) (G : Gh) (args : List AV) (vals : Array Value) : Prop :=
  vals.size = args.length ∧ ∀ (i : Nat) x, args[i]? = some x → ∃ v, vals[i]? = some v ∧ ∀ d t, RA w G (.slot d t) x v

/-- what is to be shown of a call -/
def CallOK (P : Program) (d f : Nat) (args : List AV) (mem mem' : Mem) (r : AV) : Prop :=
  Enters P f ∧ ∀ (G : Gh) (w : World) (vals : Array Value), ArgsOK w G args vals → MemOK d G mem w →
    Calls P f vals w fun e w' => ∃ v G', e = .returned v ∧ RA w' G' .ret r v ∧ MemOK d G' mem' w' ∧ Frm (d + 1) G w G' w'

/-! boxes let go -/
def dropT (p : Key → Bool) (e : Nat) : Tag → Tag
  | .box k => if p k then .foreign else .box k
  | .at (.cell k) q => if p k then .foreign else .at (.cell k) q
  | .at (.slot d' t) q => if e < d' then .foreign else .at (.slot d' t) q
  | t => t

/-- boxes let go, and what lies deeper than e; what is young is aged e -/
def Gh.drop (G : Gh) (p : Key → Bool) (e : Nat) : Gh := { G with own := fun b => (G.own b).map (dropT p e), live := fun k => G.live k ∧ p k = false, age := fun b => min (G.age b) e }

theorem drop_own {G : Gh} {p : Key → Bool} {e b : Nat} : (G.drop p e).own b = (G.own b).map (dropT p e) := rfl

theorem drop_at {G : Gh} {p : Key → Bool} {e b : Nat} {o : Ow} {q : List Nat} (ho : ∀ k, o = .cell k → p k = false) (hs : ∀ d' t, o = .slot d' t → d' ≤ e) (h : G.own b = some (.at o q)) : (G.drop p e).own b = some (.at o q) := by
  rw [drop_own, h, Option.map_some]
  cases o with
  | cell k => simp [dropT, ho k rfl]
  | slot d' t => have := hs d' t rfl; simp [dropT]; omega
  | ret => rfl

theorem drop_box {G : Gh} {p : Key → Bool} {e b : Nat} {k : Key} (hk : (G.drop p e).own b = some (.box k)) : G.own b = some (.box k) ∧ p k = false := by
  rw [drop_own] at hk
  cases hb : G.own b with
  | none => rw [hb] at hk; cases hk
  | some t =>
    rw [hb] at hk
    simp only [Option.map_some, Option.some.injEq] at hk
    cases t with
    | foreign => cases hk
    | box k' =>
      simp only [dropT] at hk
      split at hk
      · cases hk
      · rename_i hp; cases hk; exact ⟨rfl, by simpa using hp⟩
    | «at» o p' =>
      cases o with
      | cell k' => simp only [dropT] at hk; split at hk <;> cases hk
      | slot d' t => simp only [dropT] at hk; split at hk <;> cases hk
      | ret => cases hk

theorem drop_hands (G : Gh) (w : World) (p : Key → Bool) (e : Nat) (o : Ow) (q : List Nat) (ho : ∀ k, o = .cell k → p k = false) (hs : ∀ d' t, o = .slot d' t → d' ≤ e) : Hands w G w (G.drop p e) o q o q p where
  tag b r _ h := ⟨drop_at ho hs h, rfl, rfl⟩
  nil b _ h := by rw [drop_own, h]; rfl
  box b _ h k hk := h k (drop_box hk).1
  use _ _ _ := Nat.le_refl _
  cell _ _ _ _ _ := rfl
  live k hk hp := ⟨⟨hk, hp⟩, rfl, rfl⟩

theorem drop_frm (d : Nat) (G : Gh) (w : World) (p : Key → Bool) (e : Nat) (hp : ∀ k, p k = true → d ≤ k.1) (he : d ≤ e + 1) : Frm d G w (G.drop p e) w where
  size := Nat.le_refl _
  kept := Kept.refl w
  same b _ ht := ⟨rfl, by
    rw [drop_own]
    cases hb : G.own b with
    | none => rfl
    | some t =>
      rw [hb] at ht
      cases t with
      | foreign => rfl
      | box k => exact absurd trivial ht
      | «at» o q =>
        cases o with
        | cell k => exact absurd trivial ht
        | slot d' t =>
          have : ¬ d ≤ d' := ht
          simp only [Option.map_some, dropT]
          rw [if_neg (by omega)]
        | ret => rfl, rfl⟩
  age b _ ha := by show min (G.age b) e = G.age b; omega
  box b _ _ h k hk := h k (drop_box hk).1
  use _ _ _ := Nat.le_refl _
  cell _ _ _ _ _ _ := rfl
  live k hk hd := ⟨⟨hk, by
    cases hpk : p k with
    | false => rfl
    | true => have := hp k hpk; omega⟩, rfl, rfl⟩

theorem MemOK.drop {d e : Nat} {G : Gh} {mem : Mem} {w : World} (h : MemOK d G mem w) (p : Key → Bool) (hed : e ≤ d) (hd : ∀ k, G.live k → p k = false → k.1 ≤ e) : MemOK e (G.drop p e) (memKill p mem) w where
  cells k cs hk hn2 := by
    unfold memKill at hk
    split at hk
    · cases hk
    · rename_i hp
      cases hm : mem k with
      | none => rw [hm] at hk; cases hk
      | some cs0 =>
        rw [hm] at hk
        simp only [Option.map_some, Option.some.injEq] at hk
        subst hk
        obtain ⟨arr, el, h1, h2, h2c, h3⟩ := h.cells k cs0 hm (by rintro rfl; exact hn2 rfl)
        have hp' : p k = false := by simpa using hp
        refine ⟨arr, el, h1, ?_, h2c, ?_⟩
        · rw [drop_own]
          show Option.map (dropT p e) (G.own (G.β k)) = _
          rw [h2, Option.map_some]
          simp [dropT, hp']
        · rw [List.length_map]
          exact (drop_hands G w p e (.cell k) [] (fun k' hk' => by cases hk'; exact hp') (fun _ _ hh => by cases hh)).rcs h3
  live k := by
    show (G.live k ∧ p k = false) ↔ _
    rw [h.live k]
    unfold memKill
    cases p k <;> simp
  dep k hk := hd k hk.1 hk.2
  wf b t hb := by
    rw [drop_own] at hb
    cases ho : G.own b with
    | none => rw [ho] at hb; cases hb
    | some t0 => exact h.wf b t0 ho
  wfb b k hb := by
    obtain ⟨h1, h2⟩ := drop_box hb
    obtain ⟨a1, a2⟩ := h.wfb b k h1
    exact ⟨⟨a1, h2⟩, a2⟩
  wfc b k q hb := by
    rw [drop_own] at hb
    cases ho : G.own b with
    | none => rw [ho] at hb; cases hb
    | some t0 =>
      rw [ho] at hb
      simp only [Option.map_some, Option.some.injEq] at hb
      cases t0 with
      | foreign => cases hb
      | box k' => simp only [dropT] at hb; split at hb <;> cases hb
      | «at» o q' =>
        cases o with
        | cell k' =>
          simp only [dropT] at hb
          split at hb
          · cases hb
          · rename_i hp
            cases hb
            exact ⟨h.wfc _ _ _ ho, by simpa using hp⟩
        | slot _ _ => simp only [dropT] at hb; split at hb <;> cases hb
        | ret => cases hb
  age b := Nat.min_le_right _ _
  fut b hb := by show min (G.age b) e = e; rw [h.fut b hb]; omega
  aged b t hb := by
    rw [drop_own] at hb
    cases ho : G.own b with
    | none => rw [ho] at hb; cases hb
    | some t0 =>
      rw [ho] at hb
      simp only [Option.map_some, Option.some.injEq] at hb
      have ha := h.aged b t0 ho
      show t.dep e ≤ min (G.age b) e
      subst hb
      cases t0 with
      | foreign => exact Nat.zero_le _
      | box k =>
        simp only [dropT]
        split
        · exact Nat.zero_le _
        · rename_i hp
          have := hd k (h.wfb b k ho).1 (by simpa using hp)
          have ha : k.1 ≤ G.age b := ha
          show k.1 ≤ _
          omega
      | «at» o q =>
        cases o with
        | cell k =>
          simp only [dropT]
          split
          · exact Nat.zero_le _
          · rename_i hp
            have := hd k (h.wfc b k q ho) (by simpa using hp)
            have ha : k.1 ≤ G.age b := ha
            show k.1 ≤ _
            omega
        | slot d' t' =>
          simp only [dropT]
          split
          · exact Nat.zero_le _
          · have ha : d' ≤ G.age b := ha
            show d' ≤ _
            omega
        | ret =>
          have ha : d ≤ G.age b := ha
          show e ≤ _
          omega

theorem Sim.restrict {d N : Nat} {G : Gh} {σ : St} {tm : Array Value} {w : World} (h : Sim d N G σ tm w) (k : List Nat × List Nat) :
    ∃ G', Sim d N G' (restrict d σ k) tm w ∧ Frm d G w G' w := by
  let p : Key → Bool := fun x => x.1 == d && k.2.contains x.2
  have hpd : ∀ k, p k = true → d ≤ k.1 := by
    intro k hk
    simp only [p, Bool.and_eq_true, beq_iff_eq] at hk
    omega
  refine ⟨G.drop p d, (h.memOK.drop p (Nat.le_refl d) (fun k' hk _ => h.dep k' hk)).sim h.sz fun t => ?_, drop_frm d G w p d hpd (Nat.le_succ d)⟩
  show RA w _ _ (if t ∈ k.1 then (σ.env t).kill p else .dead) _
  split
  · exact (drop_hands G w p d (.slot d t) [] (by simp) (fun d' t' hh => by cases hh; exact Nat.le_refl _)).ra (h.env t)
  · exact trivial

/-! results -/
/-- what a result variable holds -/
def rrun (tm : Array Value) : ResultVar → Sem Value
  | .tmp t => pure (tm.getD t undef)
  | .cell a t => do loadVar t (← asAddr (tm.getD a undef))

def tupOf : List Value → Value
  | [v] => v
  | vs => .tuple vs.toArray

theorem run_results {P : Program} {fn : Func} {tm : Array Value} {w : World} {vs : List Value} (hl : vs.length = fn.results.toList.length)
    (h : ∀ (i : Nat) r v, fn.results.toList[i]? = some r → vs[i]? = some v → (rrun tm r).run P w = .ok v w) : (results fn tm).run P w = .ok (tupOf vs) w := by
  have hm : ∀ (l : List ResultVar) (vs : List Value), vs.length = l.length → (∀ (i : Nat) r v, l[i]? = some r → vs[i]? = some v → (rrun tm r).run P w = .ok v w) → (l.mapM (rrun tm)).run P w = Result.ok vs w := by
    intro l
    induction l with
    | nil => intro vs hl _; have : vs = [] := List.length_eq_zero_iff.1 hl; subst this; rfl
    | cons r l ih =>
      intro vs hl h
      cases vs with
      | nil => simp at hl
      | cons v vs =>
        have h0 := h 0 r v rfl rfl
        have h1 := ih vs (by simpa using hl) fun i r v hr hv => h (i + 1) r v hr hv
        simp only [List.mapM_cons, Sem.run_bind, Sem.run_pure, h0, Result.andThen_ok, h1]
  have hr : results fn tm = (do let vs ← fn.results.mapM (rrun tm); pure (if h : vs.size = 1 then vs[0] else .tuple vs)) := by
    rfl
  rw [hr, Array.mapM_eq_mapM_toList]
  simp only [Sem.run_bind, Sem.run_map]
  show ((((fn.results.toList.mapM (rrun tm)).run P w).andThen fun a w' => Result.ok a.toArray w').andThen fun a w' => Sem.run P (pure (if h : a.size = 1 then a[0] else Value.tuple a)) w') = _
  rw [hm _ vs hl h]
  simp only [Result.andThen_ok, Sem.run_pure]
  cases vs with
  | nil => rfl
  | cons v vs =>
    cases vs with
    | nil => simp [tupOf]
    | cons v2 vs => simp [tupOf]

/-- what result slots and boxes have goes to the caller -/
def resT (d : Nat) (s : Nat → List Nat → Option (List Nat)) (c : Key → Nat → List Nat → Option (List Nat)) : Tag → Tag
  | .at (.slot d' t) q => if d' = d then (match s t q with | some q' => .at .ret q' | none => .at (.slot d' t) q) else .at (.slot d' t) q
  | .at (.cell k) (x :: q) => if k.1 = d then (match c k x q with | some q' => .at .ret q' | none => .at (.cell k) (x :: q)) else .at (.cell k) (x :: q)
  | x => x

theorem resT_ok {d : Nat} (s : Nat → List Nat → Option (List Nat)) (c : Key → Nat → List Nat → Option (List Nat)) : RenOK d (resT d s c) where
  box _ := rfl
  foreign := rfl
  at_ x p := by
    cases x with
    | ret => exact ⟨_, _, rfl⟩
    | cell k' =>
      cases p with
      | nil => exact ⟨_, _, rfl⟩
      | cons x q =>
        simp only [resT]
        split
        · split <;> exact ⟨_, _, rfl⟩
        · exact ⟨_, _, rfl⟩
    | slot d' t' =>
      simp only [resT]
      split
      · split <;> exact ⟨_, _, rfl⟩
      · exact ⟨_, _, rfl⟩
  keep x hx := by
    cases x with
    | foreign => rfl
    | box k => rfl
    | «at» o p =>
      cases o with
      | cell k' => exact absurd trivial hx
      | ret => rfl
      | slot d' t' =>
        simp only [resT]
        rw [if_neg]
        rintro rfl
        exact hx (Nat.le_refl _)
  dp x p := by
    cases x with
    | ret => exact Nat.le_refl _
    | cell k' =>
      cases p with
      | nil => exact Nat.le_refl _
      | cons x q =>
        simp only [resT]
        split
        · rename_i hk
          split
          · show d ≤ k'.1; omega
          · exact Nat.le_refl _
        · exact Nat.le_refl _
    | slot d' t' =>
      simp only [resT]
      split
      · rename_i hk
        split
        · show d ≤ d'; omega
        · exact Nat.le_refl _
      · exact Nat.le_refl _

theorem resT_cell {d : Nat} {s : Nat → List Nat → Option (List Nat)} {c : Key → Nat → List Nat → Option (List Nat)} {o : Ow} {p : List Nat} {k : Key} {q : List Nat} (h : resT d s c (.at o p) = .at (.cell k) q) : ∃ k', o = .cell k' ∧ k' = k := by
  cases o with
  | ret => simp [resT] at h
  | cell k' =>
    cases p with
    | nil => simp only [resT, Tag.at.injEq, Ow.cell.injEq] at h; exact ⟨k', rfl, h.1⟩
    | cons x r =>
      simp only [resT] at h
      split at h
      · split at h
        · cases h
        · simp only [Tag.at.injEq, Ow.cell.injEq] at h; exact ⟨k', rfl, h.1⟩
      · simp only [Tag.at.injEq, Ow.cell.injEq] at h; exact ⟨k', rfl, h.1⟩
  | slot d' t =>
    simp only [resT] at h
    split at h
    · split at h <;> cases h
    · cases h

/-- where result i's parts go -/
def rtS (env : Nat → AV) : Nat → List RSrc → Nat → List Nat → Option (List Nat)
  | _, [], _, _ => none
  | i, .sl t :: r, t', q => if t' = t then some (if isAgV (env t) then i :: q else i :: 0 :: q) else rtS env (i + 1) r t' q
  | i, _ :: r, t', q => rtS env (i + 1) r t' q
def rtC : Nat → List RSrc → Key → Nat → List Nat → Option (List Nat)
  | _, [], _, _, _ => none
  | i, .bx k off size _ :: r, k', x, q => if k'.2 = k.2 then (if off ≤ x ∧ x < off + size then some (i :: (x - off) :: q) else none) else rtC (i + 1) r k' x q
  | i, _ :: r, k', x, q => rtC (i + 1) r k' x q

def slotsR (l : List RSrc) : List Nat := l.filterMap fun | .sl t => some t | _ => none
def keysR (l : List RSrc) : List Nat := l.filterMap fun | .bx k _ _ _ => some k.2 | _ => none

theorem rtS_get (env : Nat → AV) : ∀ (l : List RSrc) (i j t : Nat) (q : List Nat), nodup (slotsR l) = true → l[j]? = some (.sl t) → rtS env i l t q = some (if isAgV (env t) then (i + j) :: q else (i + j) :: 0 :: q)
  | [], i, j, t, q, _, h => by simp at h
  | r0 :: l, i, 0, t, q, _, h => by simp at h; subst h; simp [rtS]
  | r0 :: l, i, j + 1, t, q, hn, h => by
    rw [List.getElem?_cons_succ] at h
    have hmem : t ∈ slotsR l := List.mem_filterMap.2 ⟨_, List.mem_of_getElem? h, rfl⟩
    cases r0 with
    | sl t0 =>
      have hn' : nodup (t0 :: slotsR l) = true := hn
      simp only [nodup, Bool.and_eq_true, Bool.not_eq_true', List.contains_eq_mem, decide_eq_false_iff_not] at hn'
      have hne : t ≠ t0 := fun e => hn'.1 (e ▸ hmem)
      simp only [rtS, hne, if_false]
      rw [rtS_get env l (i + 1) j t q hn'.2 h, show i + 1 + j = i + (j + 1) by omega]
    | bx k off size agg =>
      simp only [rtS]
      rw [rtS_get env l (i + 1) j t q hn h, show i + 1 + j = i + (j + 1) by omega]

theorem rtC_get : ∀ (l : List RSrc) (i j : Nat) (k : Key) (off size : Nat) (agg : Bool) (x : Nat) (q : List Nat), nodup (keysR l) = true → l[j]? = some (.bx k off size agg) → off ≤ x → x < off + size → rtC i l k x q = some ((i + j) :: (x - off) :: q)
  | [], i, j, k, off, size, agg, x, q, _, h, _, _ => by simp at h
  | r0 :: l, i, 0, k, off, size, agg, x, q, _, h, h1, h2 => by simp at h; subst h; simp [rtC, h1, h2]
  | r0 :: l, i, j + 1, k, off, size, agg, x, q, hn, h, h1, h2 => by
    rw [List.getElem?_cons_succ] at h
    have hmem : k.2 ∈ keysR l := List.mem_filterMap.2 ⟨_, List.mem_of_getElem? h, rfl⟩
    cases r0 with
    | sl t0 =>
      simp only [rtC]
      rw [rtC_get l (i + 1) j k off size agg x q hn h h1 h2, show i + 1 + j = i + (j + 1) by omega]
    | bx k0 off0 size0 agg0 =>
      have hn' : nodup (k0.2 :: keysR l) = true := hn
      simp only [nodup, Bool.and_eq_true, Bool.not_eq_true', List.contains_eq_mem, decide_eq_false_iff_not] at hn'
      have hne : k.2 ≠ k0.2 := fun e => hn'.1 (e ▸ hmem)
      simp only [rtC, hne, if_false]
      rw [rtC_get l (i + 1) j k off size agg x q hn'.2 h h1 h2, show i + 1 + j = i + (j + 1) by omega]

theorem mapM_get {α β : Type} {F : α → Option β} : ∀ {l : List α} {r : List β}, l.mapM F = some r → r.length = l.length ∧ ∀ (i : Nat) y, r[i]? = some y → ∃ x, l[i]? = some x ∧ F x = some y
  | [], r, h => by simp at h; subst h; exact ⟨rfl, fun i y hi => by simp at hi⟩
  | a :: l, r, h => by
    rw [List.mapM_cons] at h
    simp only [bind, Option.bind_eq_some_iff, pure, Option.some.injEq] at h
    obtain ⟨y0, hy0, r', hr', rfl⟩ := h
    obtain ⟨h1, h2⟩ := mapM_get hr'
    refine ⟨by simp [h1], fun i y hi => ?_⟩
    cases i with
    | zero => simp at hi; subst hi; exact ⟨a, rfl, hy0⟩
    | succ i => exact h2 i y hi

theorem choose_list {α : Type} {Q : Nat → α → Prop} : ∀ (n : Nat), (∀ i, i < n → ∃ v, Q i v) → ∃ vs : List α, vs.length = n ∧ ∀ (i : Nat) v, vs[i]? = some v → Q i v
  | 0, _ => ⟨[], rfl, fun i v h => by simp at h⟩
  | n + 1, h => by
    obtain ⟨vs, h1, h2⟩ := choose_list n fun i hi => h i (Nat.lt_succ_of_lt hi)
    obtain ⟨v, hv⟩ := h n (Nat.lt_succ_self n)
    refine ⟨vs ++ [v], by simp [h1], fun i u hu => ?_⟩
    rw [List.getElem?_append] at hu
    split at hu
    · exact h2 i u hu
    · rename_i hge
      have hi : i - vs.length = 0 := by
        rcases Nat.eq_zero_or_pos (i - vs.length) with h0 | h0
        · exact h0
        · rw [List.getElem?_eq_none (by simp; omega)] at hu; cases hu
      rw [hi] at hu
      simp at hu
      subst hu
      have : i = n := by omega
      rw [this]; exact hv

def RSrc.Reads (σ : St) (G : Gh) (w : World) (tm : Array Value) (x : AV) (v : Value) : RSrc → Prop
  | .sl t => x = σ.env t ∧ v = tm.getD t undef
  | .bx k off size agg => ∃ sg vs, mkAV agg sg = some x ∧ sg.length = size ∧ RCs w G (.cell k) [] off sg vs ∧ v = (if agg then .agg vs.toArray else vs[0]?.getD undef)

/-- a result as it stands: its machine value, and how it reads -/
theorem Sim.rsrc {P : Program} {d N : Nat} {G : Gh} {σ : St} {tm : Array Value} {w : World} (h : Sim d N G σ tm w) {rv : ResultVar} {r : RSrc} (hr : Ev.rsrc P σ.env rv = some r) {x : AV} (hx : RSrc.val σ r = some x) :
    ∃ v, (rrun tm rv).run P w = .ok v w ∧ r.Reads σ G w tm x v := by
  cases rv with
  | tmp t =>
    simp only [Ev.rsrc, Option.some.injEq] at hr
    subst hr
    simp only [RSrc.val, Option.some.injEq] at hx
    exact ⟨_, rfl, hx.symm, rfl⟩
  | cell a t =>
    simp only [Ev.rsrc] at hr
    rw [Option.bind_eq_some_iff] at hr
    obtain ⟨i, hi, hr⟩ := hr
    split at hr
    · rename_i k off hp
      simp only [Option.some.injEq] at hr
      subst hr
      simp only [RSrc.val] at hx
      rw [Option.bind_eq_some_iff] at hx
      obtain ⟨cs, hcs, hx⟩ := hx
      rw [Option.bind_eq_some_iff] at hx
      obtain ⟨sg, hsg, hx⟩ := hx
      have hv := h.env a
      rw [hp] at hv
      obtain ⟨_, hv⟩ := hv
      obtain ⟨hle, hsl, _⟩ := seg_get hsg
      obtain ⟨us, hlen, hcl, hseg⟩ := Sim.vals (a := ⟨tm, []⟩) h hcs hsg
      rw [Nat.zero_add] at hseg
      have hrun := run_loadVar_cells (w := w) (P := P) hi (G.β k) off _ hlen hcl (fun hag => by rw [← hsl]; exact mkAV_len hx hag)
      refine ⟨_, ?_, sg, _, hx, hsl, hseg, rfl⟩
      simp only [rrun, hv]
      simpa [Instr.loadAt, Instr.sureAddr, asAddr] using hrun
    · cases hr

/-- at the end of a function -/
theorem Sim.returns {P : Program} {d N : Nat} {G : Gh} {σ : St} {tm : Array Value} {w : World} (h : Sim (d + 1) N G σ tm w) {fn : Func} {r : AV} (hr : retVal P (d + 1) fn σ = some r) :
    ∃ v G', (results fn tm).run P w = .ok v w ∧ RA w G' .ret (r.kill fun k => d < k.1) v ∧ MemOK d G' (memKill (fun k => d < k.1) σ.mem) w ∧ Frm (d + 1) G w G' w := by
  unfold retVal at hr
  rw [Option.bind_eq_some_iff] at hr
  obtain ⟨rs, hrs, hr⟩ := hr
  split at hr
  · cases hr
  rename_i hdep
  obtain ⟨hlen, hget⟩ := mapM_get hrs
  have hkd : ∀ (i : Nat) k off size agg, rs[i]? = some (.bx k off size agg) → k.1 = d + 1 := by
    intro i k off size agg hi
    simp only [Bool.not_eq_true', Bool.not_eq_false] at hdep
    rw [List.all_eq_true] at hdep
    have := hdep _ (List.mem_of_getElem? hi)
    simpa using this
  have hpd : ∀ k : Key, (decide (d < k.1)) = true → d + 1 ≤ k.1 := fun k hk => by have := of_decide_eq_true hk; omega
  -- the account with the results' tags moved
  have fin : ∀ (φ : Tag → Tag), RenOK (d + 1) φ → (∀ k, k.1 ≠ d + 1 → ∀ q, φ (.at (.cell k) q) = .at (.cell k) q) → (∀ o p k q, φ (.at o p) = .at (.cell k) q → ∃ k', o = .cell k' ∧ k' = k) → ∀ v, RA w (Ev.ren G φ) .ret r v → (results fn tm).run P w = .ok v w →
      ∃ v G', (results fn tm).run P w = .ok v w ∧ RA w G' .ret (r.kill fun k => d < k.1) v ∧ MemOK d G' (memKill (fun k => d < k.1) σ.mem) w ∧ Frm (d + 1) G w G' w := by
    intro φ hφ hc hnew v hv hrun
    have hS := h.ren hφ (fun _ => .dead) (fun k => if d < k.1 then (σ.mem k).map (List.map fun _ => C.dead) else σ.mem k) (fun _ => .inl rfl) (fun k => ?_) (fun o p k q hq => .inl (hnew o p k q hq))
    · have hmk : memKill (fun k => d < k.1) (fun k => if d < k.1 then (σ.mem k).map (List.map fun _ => C.dead) else σ.mem k) = memKill (fun k => d < k.1) σ.mem := by
        funext k
        unfold memKill
        by_cases hk : d < k.1 <;> simp [hk]
      have hM := hS.memOK.drop (e := d) (fun k => d < k.1) (Nat.le_succ d) (fun k _ hk => by simpa using hk)
      rw [hmk] at hM
      exact ⟨v, (Ev.ren G φ).drop (fun k => d < k.1) d, hrun, (drop_hands _ w _ d .ret [] (by simp) (fun _ _ hh => by cases hh)).ra hv, hM, (hφ.frm G w).trans (drop_frm (d + 1) _ w _ d hpd (Nat.le_refl _))⟩
    · cases hm : σ.mem k with
      | none => left; exact ⟨by simp, rfl⟩
      | some cs =>
        right
        by_cases hk : d < k.1
        · refine ⟨cs, cs.map fun _ => C.dead, rfl, by simp [hk], by simp, fun i c' hc' => .inl ?_⟩
          rw [List.getElem?_map] at hc'
          cases hq : cs[i]? with
          | none => rw [hq] at hc'; cases hc'
          | some c0 => rw [hq] at hc'; cases hc'; rfl
        · exact ⟨cs, cs, rfl, by simp [hk], rfl, fun i c' hc' => .inr ⟨hc', fun q => hc k (by omega) _⟩⟩
  have tuple : ∀ vs0, rs.mapM (fun r => (RSrc.val σ r).bind tupPart) = some vs0 → nodupR rs = true → rs.length ≠ 1 → r = .tu vs0 →
      ∃ v G', (results fn tm).run P w = .ok v w ∧ RA w G' .ret (r.kill fun k => d < k.1) v ∧ MemOK d G' (memKill (fun k => d < k.1) σ.mem) w ∧ Frm (d + 1) G w G' w := by
    intro vs0 hvs hnd hne hrr
    subst hrr
    simp only [nodupR, Bool.and_eq_true] at hnd
    have hn1 : nodup (slotsR rs) = true := hnd.1
    have hn2 : nodup (keysR rs) = true := hnd.2
    obtain ⟨hl, hg⟩ := mapM_get hvs
    have hφ := resT_ok (d := d + 1) (rtS σ.env 0 rs) (rtC 0 rs)
    -- each result's machine value
    have hval : ∀ i, i < rs.length → ∃ v, (∀ rv, fn.results.toList[i]? = some rv → (rrun tm rv).run P w = .ok v w) ∧ ∀ b cs, vs0[i]? = some (b, cs) →
        if b = true then ∃ xs : Array Value, v = .agg xs ∧ RCs w (Ev.ren G (resT (d + 1) (rtS σ.env 0 rs) (rtC 0 rs))) .ret [i] 0 cs xs.toList else RCs w (Ev.ren G (resT (d + 1) (rtS σ.env 0 rs) (rtC 0 rs))) .ret [i] 0 cs [v] := by
      intro i hi
      have hri : rs[i]? = some rs[i] := List.getElem?_eq_getElem hi
      obtain ⟨rv, hrv, hsrc⟩ := hget i _ hri
      have hvi : vs0[i]? = some vs0[i] := List.getElem?_eq_getElem (by omega)
      obtain ⟨r', hr', hpart⟩ := hg i _ hvi
      rw [hri] at hr'
      cases hr'
      rw [Option.bind_eq_some_iff] at hpart
      obtain ⟨x, hx, hpart⟩ := hpart
      obtain ⟨v, hrun, hread⟩ := h.rsrc hsrc hx
      refine ⟨v, fun rv' hrv' => by rw [hrv] at hrv'; cases hrv'; exact hrun, fun b cs hbc => ?_⟩
      rw [hvi] at hbc
      have hbc := Option.some.inj hbc
      rw [hbc] at hpart
      cases hrc : rs[i] with
      | sl t =>
        rw [hrc] at hread hri
        obtain ⟨rfl, rfl⟩ := hread
        have hra := h.env t
        have htab := fun q => rtS_get σ.env rs 0 i t q hn1 hri
        simp only [Nat.zero_add] at htab
        cases hxx : σ.env t with
        | one c =>
          rw [hxx] at hpart hra htab
          simp only [tupPart, Option.some.injEq, Prod.mk.injEq] at hpart
          obtain ⟨rfl, rfl⟩ := hpart
          simp only [Bool.false_eq_true, if_false]
          refine ⟨rfl, fun j c' hj => ?_⟩
          cases j with
          | succ j => simp at hj
          | zero =>
            simp at hj
            subst hj
            refine ⟨_, rfl, (hφ.hands G w (o := .slot (d + 1) t) (o' := .ret) (p := []) (p' := [i] ++ [0 + 0]) fun q => ?_).rc0 hra⟩
            simp [resT, htab, isAgV]
        | ag l =>
          rw [hxx] at hpart hra htab
          simp only [tupPart, Option.some.injEq, Prod.mk.injEq] at hpart
          obtain ⟨rfl, rfl⟩ := hpart
          simp only [if_true]
          obtain ⟨xs, hxs, hr⟩ := hra
          refine ⟨xs, hxs, hr.1, fun j c' hj => ?_⟩
          obtain ⟨y, hy, hrc'⟩ := hr.2 j c' hj
          refine ⟨y, hy, (hφ.hands G w (o := .slot (d + 1) t) (o' := .ret) (p := [] ++ [0 + j]) (p' := [i] ++ [0 + j]) fun q => ?_).rc0 hrc'⟩
          simp [resT, htab, isAgV]
        | tu l => rw [hxx] at hpart; simp [tupPart] at hpart
      | bx k off size agg =>
        rw [hrc] at hread hri
        obtain ⟨sg, vs, hmk, hsl, hrcs, rfl⟩ := hread
        have hk1 := hkd i k off size agg hri
        have hmove : ∀ j c y, sg[j]? = some c → RC w G (.cell k) ([] ++ [off + j]) c y → RC w (Ev.ren G (resT (d + 1) (rtS σ.env 0 rs) (rtC 0 rs))) .ret ([i] ++ [0 + j]) c y := by
          intro j c y hj hrc'
          have hjl : j < sg.length := (List.getElem?_eq_some_iff.1 hj).1
          refine (hφ.hands G w (o := .cell k) (o' := .ret) (p := [] ++ [off + j]) (p' := [i] ++ [0 + j]) fun q => ?_).rc0 hrc'
          have := rtC_get rs 0 i k off size agg (off + j) q hn2 hri (by omega) (by omega)
          simp only [List.nil_append, List.cons_append, resT, hk1, if_true]
          rw [this]
          simp
        unfold mkAV at hmk
        cases agg with
        | true =>
          simp only [if_true, Option.some.injEq] at hmk
          subst hmk
          simp only [tupPart, Option.some.injEq, Prod.mk.injEq] at hpart
          obtain ⟨rfl, rfl⟩ := hpart
          simp only [if_true]
          refine ⟨vs.toArray, rfl, hrcs.1, fun j c hj => ?_⟩
          obtain ⟨y, hy, hr⟩ := hrcs.2 j c hj
          exact ⟨y, hy, hmove j c y hj hr⟩
        | false =>
          simp only [Bool.false_eq_true, if_false] at hmk
          split at hmk
          · rename_i c
            simp only [Option.some.injEq] at hmk
            subst hmk
            simp only [tupPart, Option.some.injEq, Prod.mk.injEq] at hpart
            obtain ⟨rfl, rfl⟩ := hpart
            simp only [Bool.false_eq_true, if_false]
            obtain ⟨y, rfl, hr⟩ := RCs_one hrcs
            refine ⟨rfl, fun j c' hj => ?_⟩
            cases j with
            | succ j => simp at hj
            | zero =>
              simp at hj
              subst hj
              exact ⟨y, rfl, hmove 0 _ y rfl (by simpa using hr)⟩
          · cases hmk
    have hvals : ∃ vals : List Value, vals.length = rs.length ∧ ∀ i v, vals[i]? = some v → (∀ rv, fn.results.toList[i]? = some rv → (rrun tm rv).run P w = .ok v w) ∧ ∀ b cs, vs0[i]? = some (b, cs) →
        if b = true then ∃ xs : Array Value, v = .agg xs ∧ RCs w (Ev.ren G (resT (d + 1) (rtS σ.env 0 rs) (rtC 0 rs))) .ret [i] 0 cs xs.toList else RCs w (Ev.ren G (resT (d + 1) (rtS σ.env 0 rs) (rtC 0 rs))) .ret [i] 0 cs [v] := by
      exact choose_list rs.length hval
    obtain ⟨vals, hvl, hvv⟩ := hvals
    have hrun := run_results (P := P) (fn := fn) (tm := tm) (w := w) (vs := vals) (by rw [hvl, hlen]) fun i rv v hrv hv => (hvv i v hv).1 rv hrv
    have hmatch : tupOf vals = .tuple vals.toArray := by
      cases vals with
      | nil => rfl
      | cons v vals =>
        cases vals with
        | nil => simp at hvl; omega
        | cons _ _ => rfl
    rw [hmatch] at hrun
    refine fin _ hφ (fun k hk q => ?_) (fun o p k q hq => resT_cell hq) _ ?_ hrun
    · cases q with
      | nil => rfl
      | cons x q => simp [resT, hk]
    · refine ⟨_, rfl, by simp [hvl, hl], fun i b cs hi => ?_⟩
      have hil : i < vals.length := by rw [hvl, ← hl]; exact (List.getElem?_eq_some_iff.1 hi).1
      have hvi : vals[i]? = some vals[i] := List.getElem?_eq_getElem hil
      exact ⟨_, by rw [List.getElem?_toArray]; exact hvi, (hvv i _ hvi).2 b cs hi⟩
  cases rs with
  | nil =>
    have hr' : r = .tu [] := by
      simp only [nodupR, List.filterMap_nil, nodup, Bool.and_self, if_true, List.mapM_nil, pure, Option.map_some, Option.some.injEq] at hr; exact hr.symm
    exact tuple [] rfl rfl (by simp) hr'
  | cons r1 rs =>
    cases rs with
    | nil =>
      simp only at hr
      obtain ⟨rv, hrv, hsrc⟩ := hget 0 r1 rfl
      obtain ⟨v, hrun, hread⟩ := h.rsrc hsrc hr
      have hrun' := run_results (P := P) (fn := fn) (tm := tm) (w := w) (vs := [v]) (by simpa using hlen) fun i rv' v' hrv' hv' => by
        cases i with
        | zero => rw [hrv] at hrv'; cases hrv'; cases hv'; exact hrun
        | succ i => simp at hv'
      cases r1 with
      | sl t =>
        obtain ⟨rfl, rfl⟩ := hread
        refine fin (mvT (.slot (d + 1) t) .ret) (mvT_ok (Nat.le_refl _) (Nat.le_refl _)) (fun k _ q => by simp [mvT]) (fun o p k q hq => ?_) _ ?_ hrun'
        · simp only [mvT] at hq
          split at hq
          · cases hq
          · simp only [Tag.at.injEq] at hq; exact ⟨k, hq.1, rfl⟩
        · exact ((mvT_ok (d := d + 1) (o := .slot (d + 1) t) (o' := .ret) (Nat.le_refl _) (Nat.le_refl _)).hands G w (p := []) (p' := []) fun q => by simp [mvT]).ra0 (h.env t)
      | bx k off size agg =>
        obtain ⟨sg, vs, hmk, hsl, hrcs, rfl⟩ := hread
        have hk1 := hkd 0 k off size agg rfl
        have hφ := cellT_ok (d := d + 1) k off size .ret agg (by rw [hk1]; exact Nat.le_refl _)
        refine fin _ hφ (fun k2 hk2 q => ?_) (fun o p k2 q hq => ?_) _ ?_ hrun'
        · cases q with
          | nil => rfl
          | cons x q =>
            simp only [cellT]
            rw [if_neg]
            rintro ⟨rfl, _⟩
            exact hk2 hk1
        · cases o with
          | cell k3 =>
            cases p with
            | nil => simp only [cellT, Tag.at.injEq, Ow.cell.injEq] at hq; exact ⟨k3, rfl, hq.1⟩
            | cons j q' =>
              simp only [cellT] at hq
              split at hq
              · cases hq
              · simp only [Tag.at.injEq, Ow.cell.injEq] at hq; exact ⟨k3, rfl, hq.1⟩
          | slot a b => simp [cellT] at hq
          | ret => simp [cellT] at hq
        · refine (mkAV_ok hmk (vs := vs) (fun hag => ⟨hrcs.1, fun j c hj => ?_⟩) (fun hag c hcs => ?_)).1
          · obtain ⟨y, hy, hr⟩ := hrcs.2 j c hj
            have hjl : j < sg.length := (List.getElem?_eq_some_iff.1 hj).1
            refine ⟨y, hy, (hφ.hands G w (o := .cell k) (o' := .ret) (p := [] ++ [off + j]) (p' := [] ++ [0 + j]) fun q => ?_).rc0 hr⟩
            simp only [List.nil_append, List.cons_append, cellT, hag, Nat.zero_add]
            rw [if_pos ⟨trivial, by omega, by omega⟩]
            simp
          · subst hcs
            obtain ⟨y, hy, hr⟩ := RCs_one hrcs
            refine ⟨y, hy, (hφ.hands G w (o := .cell k) (o' := .ret) (p := [] ++ [off]) (p' := []) fun q => ?_).rc0 hr⟩
            have h1 : size = 1 := by rw [← hsl]; rfl
            simp only [List.nil_append, List.cons_append, cellT, hag]
            rw [if_pos ⟨trivial, by omega, by omega⟩]
            simp
    | cons r2 rs =>
      simp only at hr
      split at hr
      · rename_i hn
        cases hm : List.mapM (fun r => (RSrc.val σ r).bind tupPart) (r1 :: r2 :: rs) with
        | none => rw [hm] at hr; simp at hr
        | some vs0 =>
          rw [hm] at hr
          simp only [Option.map_some, Option.some.injEq] at hr
          exact tuple vs0 hm hn (by simp) hr.symm
      · cases hr

end Go.Ev
