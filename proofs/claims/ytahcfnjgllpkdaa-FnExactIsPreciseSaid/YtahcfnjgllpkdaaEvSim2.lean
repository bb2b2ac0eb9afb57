import Derived.Test.YtahcfnjgllpkdaaEvSim
set_option linter.unusedSimpArgs false
set_option linter.unusedVariables false
set_option linter.unnecessarySimpa false
namespace Go.Ev

def Ow.dep (d : Nat) : Ow → Nat
  | .slot d' _ => d'
  | .cell k => k.1
  | .ret => d
def Tag.dep (d : Nat) : Tag → Nat
  | .foreign => 0
  | .box k => k.1
  | .at o _ => o.dep d

structure Sim (d N : Nat) (G : Gh) (σ : St) (tm : Array Value) (w : World) : Prop where
  sz : tm.size = N
  env : ∀ t, RA w G (.slot d t) (σ.env t) (tm.getD t undef)
  mem : ∀ k cs, σ.mem k = some cs → cs ≠ [] → ∃ arr e, w.heap[G.β k]? = some (.cells arr e (0, 0)) ∧ G.own (G.β k) = some (.box k) ∧ arr.size = G.cap k ∧ RCs w G (.cell k) [] 0 cs (arr.toList.take cs.length)
  live : ∀ k, G.live k ↔ (σ.mem k).isSome = true
  dep : ∀ k, G.live k → k.1 ≤ d
  wf : ∀ b t, G.own b = some t → b < w.heap.size
  wfb : ∀ b k, G.own b = some (.box k) → G.live k ∧ G.β k = b
  wfc : ∀ b k p, G.own b = some (.at (.cell k) p) → G.live k
  age : ∀ b, G.age b ≤ d
  fut : ∀ b, w.heap.size ≤ b → G.age b = d
  aged : ∀ b t, G.own b = some t → t.dep d ≤ G.age b

def touch (d : Nat) : Option Tag → Prop
  | some (.box _) => True
  | some (.at (.cell _) _) => True
  | some (.at (.slot d' _) _) => d ≤ d'
  | some (.at .ret _) => True
  | _ => False

/-- what a call leaves of all else -/
def Kept (w w' : World) : Prop := (w'.os = w.os ∧ w'.tape = w.tape ∧ w'.output = w.output) ∧ ∀ a, a.block < w.heap.size → a.block < w'.heap.size ∧ w'.frozen? a = w.frozen? a
theorem Kept.refl (w : World) : Kept w w := ⟨⟨rfl, rfl, rfl⟩, fun _ h => ⟨h, rfl⟩⟩
theorem Kept.trans {w w1 w2 : World} (h : Kept w w1) (h' : Kept w1 w2) : Kept w w2 := ⟨⟨h'.1.1.trans h.1.1, h'.1.2.1.trans h.1.2.1, h'.1.2.2.trans h.1.2.2⟩, fun a ha => ⟨(h'.2 a (h.2 a ha).1).1, (h'.2 a (h.2 a ha).1).2.trans (h.2 a ha).2⟩⟩

structure Frm (d : Nat) (G : Gh) (w : World) (G' : Gh) (w' : World) : Prop where
  size : w.heap.size ≤ w'.heap.size
  kept : Kept w w'
  same : ∀ b, b < w.heap.size → ¬ touch d (G.own b) → w'.heap[b]? = w.heap[b]? ∧ G'.own b = G.own b ∧ G'.use b = G.use b
  age : ∀ b, b < w.heap.size → G.age b < d → G'.age b = G.age b
  box : ∀ b, b < w.heap.size → G.age b < d → (∀ k, G.own b ≠ some (.box k)) → ∀ k, G'.own b ≠ some (.box k)
  use : ∀ b, b < w.heap.size → G.age b < d → G.use b ≤ G'.use b
  cell : ∀ b off, b < w.heap.size → G.age b < d → (∀ k, G.own b ≠ some (.box k)) → off < G.use b → w'.cell? ⟨b, off, none⟩ = w.cell? ⟨b, off, none⟩
  live : ∀ k, G.live k → k.1 < d → G'.live k ∧ G'.β k = G.β k ∧ G'.cap k = G.cap k

theorem Frm.refl (d : Nat) (G : Gh) (w : World) : Frm d G w G w :=
  ⟨Nat.le_refl _, Kept.refl w, fun _ _ _ => ⟨rfl, rfl, rfl⟩, fun _ _ _ => rfl, fun _ _ _ h => h, fun _ _ _ => Nat.le_refl _, fun _ _ _ _ _ _ => rfl, fun _ h _ => ⟨h, rfl, rfl⟩⟩

theorem Frm.trans {d : Nat} {G G1 G2 : Gh} {w w1 w2 : World} (h1 : Frm d G w G1 w1) (h2 : Frm d G1 w1 G2 w2) : Frm d G w G2 w2 where
  size := Nat.le_trans h1.size h2.size
  kept := h1.kept.trans h2.kept
  same b hb ht := by
    obtain ⟨a1, a2, a3⟩ := h1.same b hb ht
    obtain ⟨b1, b2, b3⟩ := h2.same b (Nat.lt_of_lt_of_le hb h1.size) (by rw [a2]; exact ht)
    exact ⟨b1.trans a1, b2.trans a2, b3.trans a3⟩
  age b hb ha := (h2.age b (Nat.lt_of_lt_of_le hb h1.size) (by rw [h1.age b hb ha]; exact ha)).trans (h1.age b hb ha)
  box b hb ha hk := h2.box b (Nat.lt_of_lt_of_le hb h1.size) (by rw [h1.age b hb ha]; exact ha) (h1.box b hb ha hk)
  use b hb ha := Nat.le_trans (h1.use b hb ha) (h2.use b (Nat.lt_of_lt_of_le hb h1.size) (by rw [h1.age b hb ha]; exact ha))
  cell b off hb ha hk hu := by
    rw [h2.cell b off (Nat.lt_of_lt_of_le hb h1.size) (by rw [h1.age b hb ha]; exact ha) (h1.box b hb ha hk) (Nat.lt_of_lt_of_le hu (h1.use b hb ha)), h1.cell b off hb ha hk hu]
  live k hk hd := by
    obtain ⟨a1, a2, a3⟩ := h1.live k hk hd
    obtain ⟨b1, b2, b3⟩ := h2.live k a1 hd
    exact ⟨b1, b2.trans a2, b3.trans a3⟩

/-- what no operation of this frame touches is handed on as it is -/
theorem Frm.hands {d : Nat} {G G' : Gh} {w w' : World} (h : Frm d G w G' w') {o : Ow} {p : List Nat} {q : Key → Bool} (ho : ∀ r, ¬ touch d (some (.at o r))) (ha : ∀ b, b < w.heap.size → G.age b < d)
    (hl : ∀ k, G.live k → q k = false → G'.live k ∧ G'.β k = G.β k ∧ G'.cap k = G.cap k) : Hands w G w' G' o p o p q where
  tag b r hb ht := by
    obtain ⟨a1, a2, a3⟩ := h.same b hb (by rw [ht]; exact ho _)
    exact ⟨a2.trans ht, a3, a1⟩
  nil b hb ht := by
    obtain ⟨a1, a2, a3⟩ := h.same b hb (by rw [ht]; exact fun h => h)
    exact a2.trans ht
  box b hb hk := h.box b hb (ha b hb) hk
  use b hb _ := h.use b hb (ha b hb)
  cell b off hb hk hu := h.cell b off hb (ha b hb) hk hu
  live := hl

/-- tags renamed -/
def ren (G : Gh) (φ : Tag → Tag) : Gh := { G with own := fun b => (G.own b).map φ }

structure RenOK (d : Nat) (φ : Tag → Tag) : Prop where
  box : ∀ k, φ (.box k) = .box k
  foreign : φ .foreign = .foreign
  at_ : ∀ o p, ∃ o' p', φ (.at o p) = .at o' p'
  keep : ∀ t, ¬ touch d (some t) → φ t = t
  dp : ∀ o p, (φ (.at o p)).dep d ≤ o.dep d

theorem ren_own {G : Gh} {φ : Tag → Tag} (b : Nat) : (ren G φ).own b = (G.own b).map φ := rfl

theorem RenOK.nonbox {d : Nat} {φ : Tag → Tag} (h : RenOK d φ) {G : Gh} {b : Nat} (hk : ∀ k, G.own b ≠ some (.box k)) : ∀ k, (ren G φ).own b ≠ some (.box k) := by
  intro k hc
  rw [ren_own] at hc
  cases ho : G.own b with
  | none => rw [ho] at hc; cases hc
  | some t =>
    rw [ho] at hc
    simp only [Option.map_some, Option.some.injEq] at hc
    cases t with
    | foreign => rw [h.foreign] at hc; cases hc
    | box k' => exact hk k' ho
    | «at» o p => obtain ⟨o', p', he⟩ := h.at_ o p; rw [he] at hc; cases hc

theorem RenOK.hands {d : Nat} {φ : Tag → Tag} (h : RenOK d φ) (G : Gh) (w : World) {o o' : Ow} {p p' : List Nat} (ho : ∀ q, φ (.at o (p ++ q)) = .at o' (p' ++ q)) :
    Hands w G w (ren G φ) o p o' p' fun _ => false where
  tag b q _ ht := ⟨by rw [ren_own, ht, Option.map_some, ho], rfl, rfl⟩
  nil b _ ht := by rw [ren_own, ht]; rfl
  box b _ hk := h.nonbox hk
  use _ _ _ := Nat.le_refl _
  cell _ _ _ _ _ := rfl
  live k hk _ := ⟨hk, rfl, rfl⟩

theorem RenOK.frm {d : Nat} {φ : Tag → Tag} (h : RenOK d φ) (G : Gh) (w : World) : Frm d G w (ren G φ) w where
  size := Nat.le_refl _
  kept := Kept.refl w
  same b _ ht := ⟨rfl, by
    rw [ren_own]
    cases ho : G.own b with
    | none => rfl
    | some t => rw [ho] at ht; rw [Option.map_some, h.keep t ht], rfl⟩
  age _ _ _ := rfl
  box b _ _ hk := h.nonbox hk
  use _ _ _ := Nat.le_refl _
  cell _ _ _ _ _ _ := rfl
  live _ h _ := ⟨h, rfl, rfl⟩

theorem RenOK.tagdep {d : Nat} {φ : Tag → Tag} (h : RenOK d φ) (t : Tag) : (φ t).dep d ≤ t.dep d := by
  cases t with
  | foreign => rw [h.foreign]; exact Nat.le_refl _
  | box k => rw [h.box]; exact Nat.le_refl _
  | «at» o p => exact h.dp o p

-- a reading that owns nothing hangs on no owner
mutual
theorem RD_any {w : World} {G : Gh} {o o' : Ow} : ∀ {d : D} {m : Md} {p p' : List Nat} {v : Value}, m.isOwn = false → RD w G o m p d v → RD w G o' m p' d v
  | .sc x, m, p, p', v, _, hr => by rw [RD] at hr ⊢; exact hr
  | .sl n cs, m, p, p', v, hm, hr => by
    rw [RD] at hr ⊢
    rcases hr with hr | ⟨h1, h2, b, off, cap, hv, hc, hn, hs⟩
    · exact .inl hr
    · refine .inr ⟨h1, h2, b, off, cap, hv, hc, ?_, RDs_any (by cases m <;> simp_all [Md.elem, Md.isOwn]) hs⟩
      cases m <;> first | (simp [Md.isOwn] at hm; done) | exact hn
theorem RDs_any {w : World} {G : Gh} {o o' : Ow} : ∀ {cs : List D} {m : Md} {p p' : List Nat} {b off i : Nat}, m.isOwn = false → RDs w G o m p b off i cs → RDs w G o' m p' b off i cs
  | [], m, p, p', b, off, i, _, _ => by rw [RDs]; trivial
  | d :: ds, m, p, p', b, off, i, hm, hr => by
    rw [RDs] at hr ⊢
    obtain ⟨⟨v, hv, hd⟩, hr⟩ := hr
    exact ⟨⟨v, hv, RD_any hm hd⟩, RDs_any hm hr⟩
end

-- an owned reading, only looked at
mutual
theorem RD_bor {w : World} {G : Gh} {o o' : Ow} : ∀ {d : D} {m : Md} {p p' : List Nat} {v : Value}, RD w G o m p d v → RD w G o' .bor p' d v
  | .sc x, m, p, p', v, hr => by rw [RD] at hr ⊢; exact hr
  | .sl n cs, m, p, p', v, hr => by
    rw [RD] at hr ⊢
    rcases hr with ⟨h1, h2, a, cap, hv, _⟩ | ⟨h1, h2, b, off, cap, hv, hc, hn, hs⟩
    · exact .inl ⟨h1, h2, a, cap, hv, by simp [Md.isOwn]⟩
    · exact .inr ⟨h1, h2, b, off, cap, hv, hc, ⟨nonbox_of_node hn, use_of_node hn⟩, RDs_bor hs⟩
theorem RDs_bor {w : World} {G : Gh} {o o' : Ow} : ∀ {cs : List D} {m : Md} {p p' : List Nat} {b off i : Nat}, RDs w G o m p b off i cs → RDs w G o' .bor p' b off i cs
  | [], m, p, p', b, off, i, _ => by rw [RDs]; trivial
  | d :: ds, m, p, p', b, off, i, hr => by
    rw [RDs] at hr ⊢
    obtain ⟨⟨v, hv, hd⟩, hr⟩ := hr
    exact ⟨⟨v, hv, RD_bor hd⟩, RDs_bor hr⟩
end

theorem RC_copy {w : World} {G : Gh} {o o' : Ow} {p p' : List Nat} {c : C} {v : Value} (h : RC w G o p c v) : RC w G o' p' c.copy v := by
  cases c with
  | s x => exact h
  | l m n cs =>
    cases m with
    | own => exact RD_bor h
    | top => exact RD_bor h
    | shr => exact RD_any rfl h
    | bor => exact RD_any rfl h
  | ep m cs pos =>
    obtain ⟨hm, h1, b, off, hv, hk, hu, hs⟩ := h
    exact ⟨hm, h1, b, off, hv, hk, hu, RDs_any hm hs⟩
  | ptr k off => exact h
  | fn f caps => exact h
  | bs k n sz => exact h
  | dead => exact trivial

theorem RCs_copy {w : World} {G : Gh} {o o' : Ow} {p p' : List Nat} {i i' : Nat} {cs : List C} {vs : List Value} (h : RCs w G o p i cs vs) : RCs w G o' p' i' (cs.map C.copy) vs := by
  refine ⟨by rw [h.1, List.length_map], fun j c hj => ?_⟩
  rw [List.getElem?_map] at hj
  cases hc : cs[j]? with
  | none => rw [hc] at hj; cases hj
  | some c0 =>
    rw [hc] at hj
    obtain rfl := Option.some.inj hj
    obtain ⟨x, hx, hrc⟩ := h.2 j c0 hc
    exact ⟨x, hx, RC_copy hrc⟩

theorem RA_copy {w : World} {G : Gh} {o o' : Ow} {a : AV} {v : Value} (h : RA w G o a v) : RA w G o' a.copy v := by
  cases a with
  | one c => exact RC_copy h
  | ag cs => obtain ⟨vs, hv, hs⟩ := h; exact ⟨vs, hv, RCs_copy hs⟩
  | tu l => exact trivial

theorem RC_ofValue {w : World} {G : Gh} {o : Ow} {p : List Nat} (v : Value) : RC w G o p (C.ofValue v) v := by
  unfold C.ofValue
  split
  · rename_i h; exact ⟨rfl, h⟩
  · split
    · show RD _ _ _ _ _ _ _
      rw [RD]
      exact .inl ⟨rfl, rfl, none, 0, rfl, fun _ => rfl⟩
    · exact trivial

theorem RCs_ofValue {w : World} {G : Gh} {o : Ow} {p : List Nat} {i : Nat} (vs : List Value) : RCs w G o p i (vs.map C.ofValue) vs := by
  refine ⟨by simp, fun j c hj => ?_⟩
  rw [List.getElem?_map] at hj
  cases hv : vs[j]? with
  | none => rw [hv] at hj; cases hj
  | some v =>
    rw [hv] at hj
    obtain rfl := Option.some.inj hj
    exact ⟨v, rfl, RC_ofValue v⟩

theorem RA_ofValue {w : World} {G : Gh} {o : Ow} (v : Value) : RA w G o (AV.ofValue v) v := by
  unfold AV.ofValue
  split
  · rename_i cs
    exact ⟨cs, rfl, RCs_ofValue _⟩
  · exact RC_ofValue v

def owOf (d : Nat) : Operand → Ow
  | .tmp t => .slot d t
  | _ => .ret

theorem Sim.opnd {d N : Nat} {G : Gh} {σ : St} {w : World} {a : Act} (h : Sim d N G σ a.tmps w) (x : Operand) : RA w G (owOf d x) (Ev.opnd σ.env x) (a.eval x) := by
  cases x with
  | tmp t => exact h.env t
  | const v => exact RA_ofValue v
  | global g => exact trivial
  | func f => exact ⟨fun c hc => (List.not_mem_nil hc).elim, #[], rfl, rfl⟩

theorem RA_skp {w : World} {G : Gh} {o : Ow} : RA w G o .skp undef := ⟨#[], rfl, rfl, fun i b cs h => by simp at h⟩
theorem RA_dead {w : World} {G : Gh} {o : Ow} (v : Value) : RA w G o .dead v := trivial

theorem Sim.dead {d N : Nat} {G : Gh} {σ : St} {w : World} {tm : Array Value} (h : Sim d N G σ tm w) (t : Nat) : Sim d N G { σ with env := upd σ.env t .dead } tm w :=
  { h with env := fun t' => (by
      show RA w G _ (upd σ.env t .dead t') _
      unfold upd
      split
      · exact trivial
      · exact h.env t') }

theorem Sim.kil {d N : Nat} {G : Gh} {σ : St} {w : World} {tm : Array Value} (h : Sim d N G σ tm w) (x : Operand) : Sim d N G { σ with env := Ev.kil σ.env x } tm w := by
  cases x with
  | tmp t => exact h.dead t
  | _ => exact h

theorem getD_put {tm : Array Value} {t t' : Nat} {v : Value} (ht : t < tm.size) : (tm.setIfInBounds t v).getD t' undef = if t' = t then v else tm.getD t' undef := by
  simp only [Array.getD_eq_getD_getElem?, Array.getElem?_setIfInBounds]
  by_cases h : t' = t
  · subst h; simp [ht]
  · have h' : ¬ t = t' := fun e => h e.symm
    simp [h, h']

/-- a value into its slot -/
theorem Sim.put {d N : Nat} {G : Gh} {σ : St} {w : World} {a : Act} (h : Sim d N G σ a.tmps w) {dst : Option Nat} (hd : dst.all (· < N) = true) {v : AV} {r : Value}
    (hv : ∀ t, dst = some t → RA w G (.slot d t) v r) : Sim d N G { σ with env := putD σ.env dst v } (a.put dst r).tmps w := by
  cases dst with
  | none => exact h
  | some t =>
    have ht : t < a.tmps.size := by rw [h.sz]; simpa using hd
    refine { h with sz := ?_, env := fun t' => ?_ }
    · show (a.tmps.setIfInBounds t r).size = N
      rw [Array.size_setIfInBounds]; exact h.sz
    · show RA w G _ (upd σ.env t v t') ((a.tmps.setIfInBounds t r).getD t' undef)
      rw [getD_put ht]
      unfold upd
      split
      · rename_i e; subst e; exact hv _ rfl
      · exact h.env t'

end Go.Ev
