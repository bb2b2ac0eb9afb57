import Derived.Test.YtahcfnjgllpkdaaEvOps3
set_option linter.unusedSimpArgs false
set_option linter.unusedVariables false
set_option linter.unnecessarySimpa false
namespace Go.Ev
section
variable {g : Cfg} {d N : Nat} {G : Gh} {σ : St} {w : World} {a : Act} {dst : Option Nat} {ty : TypeId} {pos : String} {after : Array Edge} {guard : Option (Nat × Bool)}

theorem heap_new (w : World) (o : Obj) : (w.alloc o).heap[w.heap.size]? = some o := heap_alloc_new w o
theorem heap_old (w : World) (o : Obj) {b : Nat} (h : b < w.heap.size) : (w.alloc o).heap[b]? = w.heap[b]? := heap_alloc_old w o b h

/-- the account behind a new block -/
def newG (G : Gh) (b : Nat) (t : Option Tag) (u : Nat) : Gh := { G with own := upd G.own b t, use := upd G.use b u }

theorem newG_hand (G : Gh) (w : World) (o : Obj) (t : Option Tag) (u : Nat) (β : Key → Nat) (cap : Key → Nat) (live : Key → Prop) (hl : ∀ k, G.live k → live k ∧ β k = G.β k ∧ cap k = G.cap k) (o' : Ow) (p : List Nat) :
    Hands w G (w.alloc o) { newG G w.heap.size t u with β := β, live := live, cap := cap } o' p o' p fun _ => false where
  tag b q hb hq := by
    have hne : b ≠ w.heap.size := Nat.ne_of_lt hb
    exact ⟨by show upd G.own _ t b = _; simp [upd, hne, hq], by show upd G.use _ u b = _; simp [upd, hne], heap_old w o hb⟩
  nil b hb hq := by
    have hne : b ≠ w.heap.size := Nat.ne_of_lt hb
    show upd G.own _ t b = _; simp [upd, hne, hq]
  box b hb hq k := by
    have hne : b ≠ w.heap.size := Nat.ne_of_lt hb
    show upd G.own _ t b ≠ _; simp only [upd, hne, if_false]; exact hq k
  use b hb _ := by
    have hne : b ≠ w.heap.size := Nat.ne_of_lt hb
    show _ ≤ upd G.use _ u b; simp [upd, hne]
  cell b off hb _ _ := World.cell?_of_block (heap_old w o hb)
  live k hk _ := hl k hk

theorem kept_alloc (w : World) (arr : Array Value) (e : TypeId) : Kept w (w.alloc (.cells arr e)) := by
  refine ⟨⟨rfl, rfl, rfl⟩, fun a hlt => ⟨by rw [World.size_alloc]; omega, ?_⟩⟩
  simp [World.frozen?, heap_old w _ hlt]

theorem newG_frm (d : Nat) (G : Gh) (w : World) (arr : Array Value) (el : TypeId) (t : Option Tag) (u : Nat) (β : Key → Nat) (cap : Key → Nat) (live : Key → Prop) (hl : ∀ k, G.live k → live k ∧ β k = G.β k ∧ cap k = G.cap k) : Frm d G w { newG G w.heap.size t u with β := β, live := live, cap := cap } (w.alloc (.cells arr el)) where
  size := by rw [World.size_alloc]; exact Nat.le_succ _
  kept := kept_alloc w arr el
  same b hb _ := by
    have hne : b ≠ w.heap.size := Nat.ne_of_lt hb
    exact ⟨heap_old w _ hb, by show upd G.own _ t b = _; simp [upd, hne], by show upd G.use _ u b = _; simp [upd, hne]⟩
  age _ _ _ := rfl
  box b hb _ hq k := by
    have hne : b ≠ w.heap.size := Nat.ne_of_lt hb
    show upd G.own _ t b ≠ _; simp only [upd, hne, if_false]; exact hq k
  use b hb _ := by
    have hne : b ≠ w.heap.size := Nat.ne_of_lt hb
    show _ ≤ upd G.use _ u b; simp [upd, hne]
  cell b off hb _ _ _ := World.cell?_of_block (heap_old w _ hb)
  live k hk _ := hl k hk

theorem fresh_own {tm : Array Value} (h : Sim d N G σ tm w) : G.own w.heap.size = none := by
  cases ho : G.own w.heap.size with
  | none => rfl
  | some t => exact absurd (h.wf _ t ho) (Nat.lt_irrefl _)

/-- a new box, of which nothing is told yet -/
theorem Sim.newBox {tm : Array Value} (h : Sim d N G σ tm w) {k : Key} (hk : σ.mem k = none) (hkd : k.1 ≤ d) (arr : Array Value) (e : TypeId) (n : Nat) (hn : arr.size = n) :
    ∃ G', Sim d N G' { σ with mem := upd σ.mem k (some (List.replicate n C.dead)) } tm (w.alloc (.cells arr e)) ∧ Frm d G w G' (w.alloc (.cells arr e)) ∧ G'.β k = w.heap.size ∧ G'.cap k = arr.size := by
  have hnl : ¬ G.live k := by rw [h.live k, hk]; simp
  have hl : ∀ k', G.live k' → (k' = k ∨ G.live k') ∧ upd G.β k w.heap.size k' = G.β k' ∧ upd G.cap k arr.size k' = G.cap k' := by
    intro k' hk'
    have hne : k' ≠ k := fun e => hnl (e ▸ hk')
    exact ⟨.inr hk', by simp [upd, hne], by simp [upd, hne]⟩
  have hH := newG_hand G w (.cells arr e) (some (.box k)) arr.size (upd G.β k w.heap.size) (upd G.cap k arr.size) (fun x => x = k ∨ G.live x) hl
  refine ⟨_, { sz := h.sz, env := fun t => (hH _ _).ra0 (h.env t), mem := fun k2 cs2 hk2 hn2 => ?_, live := fun k2 => ?_, dep := ?_, wf := ?_, wfb := ?_, wfc := ?_, age := h.age, fut := fun b hb => h.fut b (by rw [World.size_alloc] at hb; omega), aged := ?_ }, newG_frm d G w _ _ _ _ _ _ _ hl, by simp [upd], by simp [upd]⟩
  · by_cases hkk : k2 = k
    · subst hkk
      have : upd σ.mem k2 (some (List.replicate n C.dead)) k2 = some cs2 := hk2
      simp only [upd, if_true, Option.some.injEq] at this
      subst this
      refine ⟨arr, e, ?_, ?_, by simp [upd], by simp [hn], fun j c hj => ?_⟩
      · show (w.alloc _).heap[upd G.β k2 _ k2]? = _; simp only [upd, if_true]; exact heap_new w _
      · show upd G.own _ _ (upd G.β k2 _ k2) = _; simp [upd]
      · have hjn : j < n := by
          rcases Nat.lt_or_ge j n with hlt | hge
          · exact hlt
          · rw [List.getElem?_eq_none (by simpa using hge)] at hj; cases hj
        rw [List.getElem?_replicate] at hj
        simp only [hjn, if_true, Option.some.injEq] at hj
        subst hj
        have : j < (arr.toList.take (List.replicate n C.dead).length).length := by simp [hn]; exact hjn
        exact ⟨_, List.getElem?_eq_getElem this, trivial⟩
    · have : upd σ.mem k (some (List.replicate n C.dead)) k2 = some cs2 := hk2
      simp only [upd, hkk, if_false] at this
      obtain ⟨arr2, e2, h1, h2, h2c, h3⟩ := h.mem k2 cs2 this hn2
      have hlt : G.β k2 < w.heap.size := h.wf _ _ h2
      have hne : G.β k2 ≠ w.heap.size := Nat.ne_of_lt hlt
      refine ⟨arr2, e2, ?_, ?_, by show arr2.size = upd G.cap k _ k2; simp only [upd, hkk, if_false]; exact h2c, (hH _ _).rcs0 h3⟩
      · show (w.alloc _).heap[upd G.β k _ k2]? = _; simp only [upd, hkk, if_false]; rw [heap_old w _ hlt]; exact h1
      · show upd G.own _ _ (upd G.β k _ k2) = _; simp only [upd, hkk, if_false, hne]; exact h2
  · show (k2 = k ∨ G.live k2) ↔ (upd σ.mem k (some (List.replicate n C.dead)) k2).isSome = true
    by_cases hkk : k2 = k
    · subst hkk; simp [upd]
    · simp [upd, hkk, h.live k2]
  · rintro k2 (rfl | hk2)
    · exact hkd
    · exact h.dep k2 hk2
  · intro b t hb
    have hb' : upd G.own w.heap.size (some (.box k)) b = some t := hb
    rw [World.size_alloc]
    unfold upd at hb'
    split at hb'
    · rename_i hbe; omega
    · exact Nat.lt_succ_of_lt (h.wf b t hb')
  · intro b k2 hb
    have hb' : upd G.own w.heap.size (some (.box k)) b = some (.box k2) := hb
    unfold upd at hb'
    split at hb'
    · rename_i hbe
      simp only [Option.some.injEq, Tag.box.injEq] at hb'
      subst hb'
      exact ⟨.inl rfl, by show upd G.β k _ k = b; simp [upd, hbe]⟩
    · obtain ⟨h1, h2⟩ := h.wfb b k2 hb'
      exact ⟨.inr h1, by rw [← h2]; exact (hl k2 h1).2.1⟩
  · intro b k2 p hb
    have hb' : upd G.own w.heap.size (some (.box k)) b = some (.at (.cell k2) p) := hb
    unfold upd at hb'
    split at hb'
    · cases hb'
    · exact .inr (h.wfc b k2 p hb')
  · intro b t hb
    have hb' : upd G.own w.heap.size (some (.box k)) b = some t := hb
    unfold upd at hb'
    split at hb'
    · rename_i hbe
      cases hb'
      subst hbe
      show k.1 ≤ G.age _
      rw [h.fut _ (Nat.le_refl _)]
      exact hkd
    · exact h.aged b t hb'

/-- what a box's cells hold is told -/
theorem Sim.setMem {tm : Array Value} (h : Sim d N G σ tm w) {k : Key} {cs cs' : List C} (hm : σ.mem k = some cs) (hnn : cs' ≠ [] → cs ≠ [])
    (hr : ∀ arr e, w.heap[G.β k]? = some (.cells arr e (0, 0)) → RCs w G (.cell k) [] 0 cs' (arr.toList.take cs'.length)) : Sim d N G { σ with mem := upd σ.mem k (some cs') } tm w :=
  { sz := h.sz, env := h.env, dep := h.dep, wf := h.wf, wfb := h.wfb, wfc := h.wfc, age := h.age, fut := h.fut, aged := h.aged
    mem := fun k2 cs2 hk2 hn2 => by
      by_cases hkk : k2 = k
      · subst hkk
        have : upd σ.mem k2 (some cs') k2 = some cs2 := hk2
        simp only [upd, if_true, Option.some.injEq] at this
        subst this
        obtain ⟨arr, e, h1, h2, h2c, _⟩ := h.mem k2 cs hm (hnn hn2)
        exact ⟨arr, e, h1, h2, h2c, hr arr e h1⟩
      · have : upd σ.mem k (some cs') k2 = some cs2 := hk2
        simp only [upd, hkk, if_false] at this
        exact h.mem k2 cs2 this hn2
    live := fun k2 => by
      rw [h.live k2]
      show (σ.mem k2).isSome = true ↔ (upd σ.mem k (some cs') k2).isSome = true
      by_cases hkk : k2 = k
      · subst hkk; simp [upd, hm]
      · simp [upd, hkk] }

theorem upd_upd {α β : Type} [DecidableEq α] (f : α → β) (x : α) (y z : β) : upd (upd f x y) x z = upd f x z := by
  funext t; unfold upd; split <;> rfl

theorem ok_alloc (h : Sim d N G σ a.tmps w) {t : Nat} (hd : (some t).all (· < N) = true) (e : TypeId) {i : TI} (hi : ti g.P e = some i) (hk : σ.mem (d, t) = none) :
    OpOK g.P d N G w a { dst := some t, op := .alloc e, type := ty, pos, after, guard } { σ with mem := upd σ.mem (d, t) (some (i.zero.map C.ofValue)) } (.one (.ptr (d, t) 0)) := by
  obtain ⟨info, dd, z, h1, _, h3, _, _, _, _, _, h8⟩ := ti_spec hi
  obtain ⟨G', hS, hF, hβ, _⟩ := h.newBox hk (Nat.le_refl d) z.cells e z.cells.size rfl
  have hS' := hS.setMem (k := (d, t)) (cs := List.replicate z.cells.size C.dead) (cs' := i.zero.map C.ofValue) (by simp [upd]) (fun hz h0 => hz (List.length_eq_zero_iff.1 (by have := congrArg List.length h0; rw [List.length_replicate] at this; rw [List.length_map, h8, Array.length_toList]; exact this))) (fun arr e' ha => by
    rw [hβ, heap_new] at ha
    cases ha
    rw [h8, List.length_map, List.take_length]
    exact RCs_ofValue _)
  rw [show upd (upd σ.mem (d, t) _) (d, t) _ = upd σ.mem (d, t) (some (i.zero.map C.ofValue)) from upd_upd _ _ _ _] at hS'
  refine OpOK.mk (r := .pointer (some ⟨w.heap.size, 0, none⟩)) hd ?_ hF hS' fun t' ht' => ?_
  · simp [execOp, Instr.alloc, zeroValue, typeInfo, h1, h3, newVar, newRow]
  · exact ⟨by rw [hS'.live]; simp [upd], by rw [hβ]⟩

theorem ok_box (h : Sim d N G σ a.tmps w) {t : Nat} (hd : (some t).all (· < N) = true) (e : TypeId) (x : Operand) {cs : List C} (hc : (opnd σ.env x).cells = some cs) (hk : σ.mem (d, t) = none) :
    OpOK g.P d N G w a { dst := some t, op := .box e x, type := ty, pos, after, guard } { env := kil σ.env x, mem := upd σ.mem (d, t) (some cs) } (.one (.ptr (d, t) 0)) := by
  have hsz : (a.eval x).cells.size = cs.length := (RA_cells hc (h.opnd x)).1
  obtain ⟨G1, hS1, hF1, hβ1, _⟩ := h.newBox hk (Nat.le_refl d) (a.eval x).cells e cs.length hsz
  obtain ⟨G2, hS2, hF2, hβ2, hlv2, _, _, hcs, _⟩ := hS1.takeCells (env := a.eval) (fun _ => rfl) (fun _ => rfl) (fun _ => rfl) x (d, t) 0 (by simp [upd]) (cs := cs) hc
  have hS3 := hS2.setMem (k := (d, t)) (cs' := cs) (cs := List.replicate cs.length C.dead) (by simp [upd]) (fun hz h0 => hz (List.length_eq_zero_iff.1 (by have := congrArg List.length h0; rw [List.length_replicate] at this; exact this))) (fun arr e' ha => by
    rw [hβ2, hβ1, heap_new] at ha
    cases ha
    have htk : (a.eval x).cells.toList.take cs.length = (a.eval x).cells.toList := by rw [← hsz, ← Array.length_toList, List.take_length]
    rw [htk]
    refine ⟨by rw [Array.length_toList, hsz], fun j c hj => ?_⟩
    obtain ⟨y, hy, hr⟩ := hcs j c hj
    exact ⟨y, hy, by simpa using hr⟩)
  rw [show upd (upd σ.mem (d, t) (some (List.replicate cs.length C.dead))) (d, t) (some cs) = upd σ.mem (d, t) (some cs) from upd_upd _ _ _ _] at hS3
  refine OpOK.mk (r := .pointer (some ⟨w.heap.size, 0, none⟩)) hd ?_ (hF1.trans hF2) hS3 fun t' ht' => ?_
  · simp [execOp, Instr.box, newVar, newRow]
  · exact ⟨by rw [hS3.live]; simp [upd], by rw [hβ2, hβ1]⟩

theorem nodupB {l : List Nat} (h : nodup l = true) : l.Nodup := by
  induction l with
  | nil => exact List.nodup_nil
  | cons x r ih =>
    simp only [nodup, Bool.and_eq_true, Bool.not_eq_true', List.contains_eq_mem, decide_eq_false_iff_not] at h
    exact List.nodup_cons.2 ⟨h.1, ih h.2⟩

/-! a tuple's part -/
def tupT (d t i : Nat) (o' : Ow) (agg : Bool) : Tag → Tag
  | .at (.slot d' t') (i' :: q) => if d' = d ∧ t' = t ∧ i' = i then .at o' (if agg then q else q.drop 1) else .at (.slot d' t') (i' :: q)
  | x => x

theorem tupT_ok {d : Nat} (t i : Nat) (o' : Ow) (agg : Bool) (hdp : o'.dep d ≤ d) : RenOK d (tupT d t i o' agg) where
  dp x p := by
    cases x with
    | cell k' => exact Nat.le_refl _
    | ret => exact Nat.le_refl _
    | slot d' t' =>
      cases p with
      | nil => exact Nat.le_refl _
      | cons i' q =>
        simp only [tupT]
        split
        · rename_i hc; rw [hc.1]; exact hdp
        · exact Nat.le_refl _
  box _ := rfl
  foreign := rfl
  at_ x p := by
    cases x with
    | cell k' => exact ⟨_, _, rfl⟩
    | ret => exact ⟨_, _, rfl⟩
    | slot d' t' =>
      cases p with
      | nil => exact ⟨_, _, rfl⟩
      | cons i' q =>
        by_cases hc : d' = d ∧ t' = t ∧ i' = i
        · exact ⟨o', _, by simp only [tupT]; rw [if_pos hc]⟩
        · exact ⟨_, _, by simp only [tupT]; rw [if_neg hc]⟩
  keep x hx := by
    cases x with
    | foreign => rfl
    | box k => rfl
    | «at» o p =>
      cases o with
      | cell k' => rfl
      | ret => rfl
      | slot d' t' =>
        cases p with
        | nil => rfl
        | cons i' q =>
          simp only [tupT]
          rw [if_neg]
          rintro ⟨rfl, _⟩
          exact hx (Nat.le_refl _)

theorem RCs_map_dead {o : Ow} {p : List Nat} {i : Nat} {cs : List C} {vs : List Value} (h : RCs w G o p i cs vs) : RCs w G o p i (cs.map fun _ => C.dead) vs := by
  refine ⟨by rw [h.1, List.length_map], fun j c hj => ?_⟩
  rw [List.getElem?_map] at hj
  cases hc : cs[j]? with
  | none => rw [hc] at hj; cases hj
  | some c0 =>
    rw [hc] at hj
    cases hj
    obtain ⟨x, hx, _⟩ := h.2 j c0 hc
    exact ⟨x, hx, trivial⟩

theorem ok_extract (h : Sim d N G σ a.tmps w) (hd : dst.all (· < N) = true) (t i : Nat) {l : List (Bool × List C)} (hx : σ.env t = .tu l) {ag : Bool} {cs : List C} (hl : l[i]? = some (ag, cs)) {v : AV} (hv : mkAV ag cs = some v) :
    OpOK g.P d N G w a { dst, op := .extract (.tmp t) i, type := ty, pos, after, guard } { σ with env := upd σ.env t (.tu (l.set i (ag, cs.map fun _ => .dead))) } v := by
  have hra := h.env t
  rw [hx] at hra
  obtain ⟨vs, hvs, hz, hs⟩ := hra
  obtain ⟨x, hxi, hxr⟩ := hs i ag cs hl
  have hil : i < l.length := by
    rcases Nat.lt_or_ge i l.length with hlt | hge
    · exact hlt
    · rw [List.getElem?_eq_none hge] at hl; cases hl
  have hrun : (execOp a.eval { dst, op := .extract (.tmp t) i, type := ty, pos, after, guard }).run g.P w = .ok (.value x) w := by
    have he : a.eval (.tmp t) = .tuple vs := hvs
    simp [execOp, Instr.extract, he, hxi]
  have key : ∀ o', o'.dep d ≤ d → (∀ k, o' ≠ .cell k) → Sim d N (Ev.ren G (tupT d t i o' ag)) { σ with env := upd σ.env t (.tu (l.set i (ag, cs.map fun _ => .dead))) } a.tmps w := by
    intro o' hdp ho'
    have hφ := tupT_ok (d := d) t i o' ag hdp
    have h0 := h.ren hφ (upd σ.env t .dead) σ.mem (fun t2 => ?_) (Sim.memSame _ fun k q => rfl) ?_
    · refine { h0 with env := fun t2 => ?_ }
      show RA w _ _ (upd σ.env t _ t2) _
      by_cases ht : t2 = t
      · subst ht
        simp only [upd, if_true]
        refine ⟨vs, hvs, by rw [hz, List.length_set], fun j b cs2 hj => ?_⟩
        rw [List.getElem?_set] at hj
        by_cases hji : i = j
        · subst hji
          simp only [if_true, hil, Option.some.injEq, Prod.mk.injEq] at hj
          obtain ⟨rfl, rfl⟩ := hj
          refine ⟨x, hxi, ?_⟩
          cases ag with
          | true =>
            obtain ⟨xs, hxs, hr⟩ := hxr
            exact ⟨xs, hxs, by rw [List.length_map]; exact hr.1, fun j c hj => by
              rw [List.getElem?_map] at hj
              cases hc : cs[j]? with
              | none => rw [hc] at hj; cases hj
              | some c0 => rw [hc] at hj; cases hj; obtain ⟨y, hy, _⟩ := hr.2 j c0 hc; exact ⟨y, hy, trivial⟩⟩
          | false =>
            exact ⟨by rw [List.length_map]; exact hxr.1, fun j c hj => by
              rw [List.getElem?_map] at hj
              cases hc : cs[j]? with
              | none => rw [hc] at hj; cases hj
              | some c0 => rw [hc] at hj; cases hj; obtain ⟨y, hy, _⟩ := hxr.2 j c0 hc; exact ⟨y, hy, trivial⟩⟩
        · simp only [hji, if_false] at hj
          obtain ⟨y, hy, hr⟩ := hs j b cs2 hj
          have hh : ∀ (p : List Nat), Hands w G w (Ev.ren G (tupT d t2 i o' ag)) (.slot d t2) ([j] ++ p) (.slot d t2) ([j] ++ p) fun _ => false := fun p =>
            hφ.hands G w fun q => by simp [tupT, Ne.symm hji]
          refine ⟨y, hy, ?_⟩
          cases b with
          | true =>
            obtain ⟨xs, hxs, hr⟩ := hr
            exact ⟨xs, hxs, (by simpa using (hh []) : Hands w G w (Ev.ren G (tupT d t2 i o' ag)) (.slot d t2) [j] (.slot d t2) [j] fun _ => false).rcs0 hr⟩
          | false => exact (by simpa using (hh []) : Hands w G w (Ev.ren G (tupT d t2 i o' ag)) (.slot d t2) [j] (.slot d t2) [j] fun _ => false).rcs0 hr
      · have := h0.env t2
        simpa [upd, ht] using this
    · by_cases ht : t2 = t
      · left; simp [upd, ht]
      · right
        refine ⟨by simp [upd, ht], fun q => ?_⟩
        cases q with
        | nil => rfl
        | cons j q => simp [tupT, ht]
    · intro o p k q hq
      left
      cases o with
      | cell k3 => simp only [tupT, Tag.at.injEq, Ow.cell.injEq] at hq; exact ⟨k3, rfl, hq.1⟩
      | ret => simp [tupT] at hq
      | slot d' t' =>
        cases p with
        | nil => simp [tupT] at hq
        | cons j q' =>
          simp only [tupT] at hq
          split at hq
          · simp only [Tag.at.injEq] at hq; exact absurd hq.1 (ho' k)
          · cases hq
  have hval : ∀ o', o'.dep d ≤ d → RA w (Ev.ren G (tupT d t i o' ag)) o' v x := by
    intro o' hdp
    have hφ := tupT_ok (d := d) t i o' ag hdp
    cases ag with
    | true =>
      obtain ⟨xs, rfl, hr⟩ := hxr
      simp only [mkAV, if_true, Option.some.injEq] at hv
      subst hv
      exact ⟨xs, rfl, (hφ.hands G w (o := .slot d t) (p := [i]) (p' := []) fun q => by simp [tupT]).rcs0 hr⟩
    | false =>
      simp only [mkAV, Bool.false_eq_true, if_false] at hv
      split at hv
      · rename_i c
        cases hv
        obtain ⟨y, hy, hr⟩ := RCs_one hxr
        cases hy
        exact (hφ.hands G w (o := .slot d t) (p := [i] ++ [0]) (p' := []) fun q => by simp [tupT]).rc0 hr
      · cases hv
  cases dst with
  | none => exact OpOK.mk hd hrun ((tupT_ok t i .ret ag (Nat.le_refl d)).frm G w) (key .ret (Nat.le_refl d) (by simp)) fun _ ht => by cases ht
  | some t' => exact OpOK.mk hd hrun ((tupT_ok t i (.slot d t') ag (Nat.le_refl d)).frm G w) (key (.slot d t') (Nat.le_refl d) (by simp)) fun _ ht => by cases ht; exact hval _ (Nat.le_refl d)

end
end Go.Ev
