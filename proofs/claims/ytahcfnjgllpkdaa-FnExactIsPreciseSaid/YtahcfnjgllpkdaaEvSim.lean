import Derived.Test.YtahcfnjgllpkdaaEvLim
set_option linter.unusedSimpArgs false
set_option linter.unusedVariables false
set_option linter.unnecessarySimpa false
namespace Go.Ev

inductive Ow where
  | slot (d t : Nat)
  | cell (k : Key)
  | ret
  deriving DecidableEq

inductive Tag where
  | foreign
  | box (k : Key)
  | at (o : Ow) (p : List Nat)
  deriving DecidableEq

/-- the proof's own account of memory: who owns a block, how far its cells are in use, where a box lies -/
structure Gh where
  own : Nat → Option Tag
  use : Nat → Nat
  β : Key → Nat
  live : Key → Prop
  /-- the depth of the frame that a block was born in (or came back to) -/
  age : Nat → Nat
  /-- how many cells a box's block has -/
  cap : Key → Nat

def Md.isOwn : Md → Bool
  | .own | .top => true
  | _ => false

def nodeOK (w : World) (G : Gh) (m : Md) (o : Ow) (p : List Nat) (b off n cap len : Nat) : Prop := match m with
  | .own | .top => G.own b = some (.at o p) ∧ off + len = G.use b ∧ off = 0 ∧ ∃ arr e, w.heap[b]? = some (.cells arr e (0, 0)) ∧ ∀ sz, len = n * sz → off + cap * sz ≤ arr.size
  | .shr => G.own b = none ∧ off + len ≤ G.use b
  | .bor => (∀ k, G.own b ≠ some (.box k)) ∧ off + len ≤ G.use b

mutual
def RD (w : World) (G : Gh) (o : Ow) : Md → List Nat → D → Value → Prop
  | _, _, .sc x, v => v = x ∧ scal x = true
  | m, p, .sl n cs, v =>
    (cs = [] ∧ n = 0 ∧ ∃ a cap, v = .slice a 0 cap ∧ (m.isOwn = true → cap = 0)) ∨
    (cs ≠ [] ∧ 0 < n ∧ ∃ b off cap, v = .slice (some ⟨b, off, none⟩) n cap ∧ n ≤ cap ∧ nodeOK w G m o p b off n cap cs.length ∧ RDs w G o m.elem p b off 0 cs)
def RDs (w : World) (G : Gh) (o : Ow) : Md → List Nat → Nat → Nat → Nat → List D → Prop
  | _, _, _, _, _, [] => True
  | m, p, b, off, i, d :: ds => (∃ v, w.cell? ⟨b, off + i, none⟩ = some v ∧ RD w G o m (p ++ [i]) d v) ∧ RDs w G o m p b off (i + 1) ds
end

theorem RDs_get {w : World} {G : Gh} {o : Ow} {m : Md} {p : List Nat} {b off : Nat} : ∀ {cs : List D} {i : Nat}, RDs w G o m p b off i cs →
    ∀ (j : Nat) (d : D), cs[j]? = some d → ∃ v, w.cell? ⟨b, off + (i + j), none⟩ = some v ∧ RD w G o m (p ++ [i + j]) d v
  | [], _, _, j, d, h => by cases h
  | c :: cs, i, h, j, d, hj => by
    rw [RDs] at h
    cases j with
    | zero => cases hj; exact h.1
    | succ j =>
      have := RDs_get h.2 j d hj
      rw [show i + 1 + j = i + (j + 1) by omega] at this
      exact this

theorem RDs_of {w : World} {G : Gh} {o : Ow} {m : Md} {p : List Nat} {b off : Nat} : ∀ {cs : List D} {i : Nat},
    (∀ (j : Nat) (d : D), cs[j]? = some d → ∃ v, w.cell? ⟨b, off + (i + j), none⟩ = some v ∧ RD w G o m (p ++ [i + j]) d v) → RDs w G o m p b off i cs
  | [], _, _ => by rw [RDs]; trivial
  | c :: cs, i, h => by
    rw [RDs]
    refine ⟨h 0 c rfl, RDs_of fun j d hj => ?_⟩
    have := h (j + 1) d hj
    rw [show i + (j + 1) = i + 1 + j by omega] at this
    exact this

theorem lt_of_cell {w : World} {b off : Nat} {v : Value} (h : w.cell? ⟨b, off, none⟩ = some v) : b < w.heap.size := by
  unfold World.cell? at h
  rcases Nat.lt_or_ge b w.heap.size with hb | hb
  · exact hb
  · simp [Array.getElem?_eq_none hb] at h

/-- What lets a reading be handed on: to another owner, place, account, world. -/
structure Hand (w : World) (G : Gh) (w' : World) (G' : Gh) (o : Ow) (p : List Nat) (o' : Ow) (p' : List Nat) : Prop where
  tag : ∀ b q, b < w.heap.size → G.own b = some (.at o (p ++ q)) → G'.own b = some (.at o' (p' ++ q)) ∧ G'.use b = G.use b ∧ w'.heap[b]? = w.heap[b]?
  nil : ∀ b, b < w.heap.size → G.own b = none → G'.own b = none
  box : ∀ b, b < w.heap.size → (∀ k, G.own b ≠ some (.box k)) → ∀ k, G'.own b ≠ some (.box k)
  use : ∀ b, b < w.heap.size → (∀ k, G.own b ≠ some (.box k)) → G.use b ≤ G'.use b
  cell : ∀ b off, b < w.heap.size → (∀ k, G.own b ≠ some (.box k)) → off < G.use b → w'.cell? ⟨b, off, none⟩ = w.cell? ⟨b, off, none⟩

theorem Hand.sub {w : World} {G : Gh} {w' : World} {G' : Gh} {o : Ow} {p : List Nat} {o' : Ow} {p' : List Nat} (h : Hand w G w' G' o p o' p') (i : List Nat) :
    Hand w G w' G' o (p ++ i) o' (p' ++ i) :=
  ⟨fun b q hb hq => by rw [List.append_assoc] at hq ⊢; exact h.tag b (i ++ q) hb hq, h.nil, h.box, h.use, h.cell⟩

theorem nonbox_of_node {w : World} {G : Gh} {m : Md} {o : Ow} {p : List Nat} {b off n cap len : Nat} (h : nodeOK w G m o p b off n cap len) : ∀ k, G.own b ≠ some (.box k) := by
  intro k
  cases m <;> simp only [nodeOK] at h
  · rw [h.1]; simp
  · rw [h.1]; simp
  · rw [h.1]; simp
  · exact h.1 k

theorem use_of_node {w : World} {G : Gh} {m : Md} {o : Ow} {p : List Nat} {b off n cap len : Nat} (h : nodeOK w G m o p b off n cap len) : off + len ≤ G.use b := by
  cases m <;> simp only [nodeOK] at h
  · omega
  · omega
  · exact h.2
  · exact h.2

theorem Hand.node {w : World} {G : Gh} {w' : World} {G' : Gh} {o : Ow} {p : List Nat} {o' : Ow} {p' : List Nat} (h : Hand w G w' G' o p o' p')
    {m : Md} {b off n cap len : Nat} (hb : b < w.heap.size) (hn : nodeOK w G m o p b off n cap len) : nodeOK w' G' m o' p' b off n cap len := by
  cases m <;> simp only [nodeOK] at hn ⊢
  · obtain ⟨h1, h2, h0, arr, e, h3, h4⟩ := hn
    obtain ⟨t1, t2, t3⟩ := h.tag b [] hb (by simpa using h1)
    exact ⟨by simpa using t1, by omega, h0, arr, e, by rw [t3, h3], h4⟩
  · obtain ⟨h1, h2, h0, arr, e, h3, h4⟩ := hn
    obtain ⟨t1, t2, t3⟩ := h.tag b [] hb (by simpa using h1)
    exact ⟨by simpa using t1, by omega, h0, arr, e, by rw [t3, h3], h4⟩
  · exact ⟨h.nil b hb hn.1, Nat.le_trans hn.2 (h.use b hb (by rw [hn.1]; simp))⟩
  · exact ⟨h.box b hb hn.1, Nat.le_trans hn.2 (h.use b hb hn.1)⟩

mutual
theorem Hand.rd {w : World} {G : Gh} {w' : World} {G' : Gh} {o : Ow} {p : List Nat} {o' : Ow} {p' : List Nat} (h : Hand w G w' G' o p o' p') :
    ∀ {d : D} {m : Md} {v : Value}, RD w G o m p d v → RD w' G' o' m p' d v
  | .sc x, m, v, hr => by rw [RD] at hr ⊢; exact hr
  | .sl n cs, m, v, hr => by
    rw [RD] at hr ⊢
    rcases hr with hr | ⟨h1, h2, b, off, cap, hv, hc, hn, hs⟩
    · exact .inl hr
    · obtain ⟨c, cs', rfl⟩ := List.exists_cons_of_ne_nil h1
      have hb : b < w.heap.size := by
        rw [RDs] at hs
        obtain ⟨⟨v', hv', _⟩, _⟩ := hs
        exact lt_of_cell hv'
      exact .inr ⟨h1, h2, b, off, cap, hv, hc, h.node hb hn, Hand.rds h hb (nonbox_of_node hn) (by have := use_of_node hn; simpa using this) hs⟩
theorem Hand.rds {w : World} {G : Gh} {w' : World} {G' : Gh} {o : Ow} {p : List Nat} {o' : Ow} {p' : List Nat} (h : Hand w G w' G' o p o' p') :
    ∀ {cs : List D} {m : Md} {b off i : Nat}, b < w.heap.size → (∀ k, G.own b ≠ some (.box k)) → off + i + cs.length ≤ G.use b → RDs w G o m p b off i cs → RDs w' G' o' m p' b off i cs
  | [], m, b, off, i, _, _, _, _ => by rw [RDs]; trivial
  | d :: ds, m, b, off, i, hb, hk, hu, hr => by
    rw [RDs] at hr ⊢
    obtain ⟨⟨v, hv, hd⟩, hr⟩ := hr
    simp only [List.length_cons] at hu
    exact ⟨⟨v, by rw [h.cell b _ hb hk (by omega)]; exact hv, Hand.rd (h.sub [i]) hd⟩, Hand.rds h hb hk (by omega) hr⟩
end

/-- A cell's content. -/
def RC (w : World) (G : Gh) (o : Ow) (p : List Nat) : C → Value → Prop
  | .s x, v => v = x ∧ scal x = true
  | .l m n cs, v => RD w G o m p (.sl n cs) v
  | .ep m cs pos, v => m.isOwn = false ∧ cs ≠ [] ∧ ∃ b off, v = .pointer (some ⟨b, off + pos, none⟩) ∧ (∀ k, G.own b ≠ some (.box k)) ∧ off + cs.length ≤ G.use b ∧ RDs w G o m p b off 0 cs
  | .ptr k off, v => G.live k ∧ v = .pointer (some ⟨G.β k, off, none⟩)
  | .fn f caps, v => (∀ c ∈ caps, G.live c.1) ∧ ∃ vs, v = .func (.func f) #[] vs ∧ vs.toList = caps.map fun c => .pointer (some ⟨G.β c.1, c.2, none⟩)
  | .bs k n sz, v => G.live k ∧ 0 < sz ∧ ∃ a cap, v = .slice a n cap ∧ (n = 0 → cap = 0) ∧ (0 < n → a = some ⟨G.β k, 0, none⟩ ∧ n ≤ cap ∧ cap * sz ≤ G.cap k)
  | .dead, _ => True

def RCs (w : World) (G : Gh) (o : Ow) (p : List Nat) (i : Nat) (cs : List C) (vs : List Value) : Prop :=
  vs.length = cs.length ∧ ∀ j c, cs[j]? = some c → ∃ x, vs[j]? = some x ∧ RC w G o (p ++ [i + j]) c x

def RA (w : World) (G : Gh) (o : Ow) : AV → Value → Prop
  | .one c, v => RC w G o [] c v
  | .ag cs, v => ∃ vs, v = .agg vs ∧ RCs w G o [] 0 cs vs.toList
  | .tu l, v => ∃ vs, v = .tuple vs ∧ vs.size = l.length ∧ ∀ (i : Nat) (b : Bool) (cs : List C), l[i]? = some (b, cs) → ∃ x, vs[i]? = some x ∧
      if b = true then ∃ xs : Array Value, x = .agg xs ∧ RCs w G o [i] 0 cs xs.toList else RCs w G o [i] 0 cs [x]

/-- the keys that are let go -/
structure Hands (w : World) (G : Gh) (w' : World) (G' : Gh) (o : Ow) (p : List Nat) (o' : Ow) (p' : List Nat) (q : Key → Bool) : Prop extends Hand w G w' G' o p o' p' where
  live : ∀ k, G.live k → q k = false → G'.live k ∧ G'.β k = G.β k ∧ G'.cap k = G.cap k

theorem Hands.sub {w : World} {G : Gh} {w' : World} {G' : Gh} {o : Ow} {p : List Nat} {o' : Ow} {p' : List Nat} {q : Key → Bool} (h : Hands w G w' G' o p o' p' q) (i : List Nat) :
    Hands w G w' G' o (p ++ i) o' (p' ++ i) q := ⟨h.toHand.sub i, h.live⟩

theorem Hands.rc {w : World} {G : Gh} {w' : World} {G' : Gh} {o : Ow} {p : List Nat} {o' : Ow} {p' : List Nat} {q : Key → Bool} (h : Hands w G w' G' o p o' p' q) {c : C} {v : Value}
    (hr : RC w G o p c v) : RC w' G' o' p' (c.kill q) v := by
  cases c with
  | s x => exact hr
  | l m n cs => exact h.toHand.rd hr
  | ep m cs pos =>
    obtain ⟨hm, h1, b, off, hv, hk, hu, hs⟩ := hr
    have hb : b < w.heap.size := by
      obtain ⟨c, cs', rfl⟩ := List.exists_cons_of_ne_nil h1
      rw [RDs] at hs
      obtain ⟨⟨v', hv', _⟩, _⟩ := hs
      exact lt_of_cell hv'
    exact ⟨hm, h1, b, off, hv, h.box b hb hk, Nat.le_trans hu (h.use b hb hk), Hand.rds h.toHand hb hk (by simpa using hu) hs⟩
  | ptr k off =>
    obtain ⟨hl, hv⟩ := hr
    simp only [C.kill]
    cases hq : q k with
    | true => exact trivial
    | false => exact ⟨(h.live k hl hq).1, by rw [(h.live k hl hq).2.1]; exact hv⟩
  | fn f caps =>
    obtain ⟨hl, vs, hv, hvs⟩ := hr
    simp only [C.kill]
    cases hq : caps.any (fun c => q c.1) with
    | true => exact trivial
    | false =>
      have hq' : ∀ c ∈ caps, q c.1 = false := by
        intro c hc
        rw [List.any_eq_false] at hq
        simpa using hq c hc
      refine ⟨fun c hc => (h.live c.1 (hl c hc) (hq' c hc)).1, vs, hv, ?_⟩
      rw [hvs]
      exact List.map_congr_left fun c hc => by rw [(h.live c.1 (hl c hc) (hq' c hc)).2.1]
  | bs k n sz =>
    obtain ⟨hl, hz, ba, cap, hv, h1, h2⟩ := hr
    simp only [C.kill]
    cases hq : q k with
    | true => exact trivial
    | false =>
      obtain ⟨a1, a2, a3⟩ := h.live k hl hq
      exact ⟨a1, hz, ba, cap, hv, h1, by rw [a2, a3]; exact h2⟩
  | dead => exact trivial

theorem Hands.rcs {w : World} {G : Gh} {w' : World} {G' : Gh} {o : Ow} {p : List Nat} {o' : Ow} {p' : List Nat} {q : Key → Bool} (h : Hands w G w' G' o p o' p' q) {cs : List C} {i : Nat} {vs : List Value}
    (hr : RCs w G o p i cs vs) : RCs w' G' o' p' i (cs.map (C.kill q)) vs := by
  refine ⟨by rw [hr.1, List.length_map], fun j c hj => ?_⟩
  rw [List.getElem?_map] at hj
  cases hc : cs[j]? with
  | none => rw [hc] at hj; cases hj
  | some c0 =>
    rw [hc] at hj
    obtain rfl := Option.some.inj hj
    obtain ⟨x, hx, hrc⟩ := hr.2 j c0 hc
    exact ⟨x, hx, (h.sub [i + j]).rc hrc⟩

theorem Hands.ra {w : World} {G : Gh} {w' : World} {G' : Gh} {o o' : Ow} {q : Key → Bool} (h : Hands w G w' G' o [] o' [] q) {a : AV} {v : Value}
    (hr : RA w G o a v) : RA w' G' o' (a.kill q) v := by
  cases a with
  | one c => exact h.rc hr
  | ag cs =>
    obtain ⟨vs, hv, hs⟩ := hr
    exact ⟨vs, hv, h.rcs hs⟩
  | tu l =>
    obtain ⟨vs, hv, hz, hs⟩ := hr
    refine ⟨vs, hv, by rw [hz, List.length_map], fun i b cs hi => ?_⟩
    rw [List.getElem?_map] at hi
    cases hl : l[i]? with
    | none => rw [hl] at hi; cases hi
    | some bc =>
      rw [hl] at hi
      obtain ⟨b0, cs0⟩ := bc
      simp only [Option.map_some, Option.some.injEq, Prod.mk.injEq] at hi
      obtain ⟨rfl, rfl⟩ := hi
      obtain ⟨x, hx, hc⟩ := hs i b0 cs0 hl
      refine ⟨x, hx, ?_⟩
      cases b0 with
      | true =>
        obtain ⟨xs, hxs, hr⟩ := hc
        exact ⟨xs, hxs, (h.sub [i]).rcs hr⟩
      | false => exact (h.sub [i]).rcs hc

theorem C.kill_none (c : C) : c.kill (fun _ => false) = c := by
  cases c <;> simp [C.kill]
theorem map_kill_none (cs : List C) : cs.map (C.kill fun _ => false) = cs := by
  rw [show C.kill (fun _ => false) = id from funext C.kill_none]; exact List.map_id cs
theorem AV.kill_none (a : AV) : a.kill (fun _ => false) = a := by
  cases a with
  | one c => simp [AV.kill, C.kill_none]
  | ag cs => simp only [AV.kill, map_kill_none]
  | tu l =>
    simp only [AV.kill, map_kill_none]
    congr 1
    exact List.map_id l

end Go.Ev
