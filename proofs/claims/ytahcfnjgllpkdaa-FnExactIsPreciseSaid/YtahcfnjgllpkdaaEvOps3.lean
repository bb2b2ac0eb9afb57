import Derived.Test.YtahcfnjgllpkdaaEvOps2
import Derived.Laws.AppendOwn
import Derived.Laws.MakeOwn
set_option linter.unusedSimpArgs false
set_option linter.unusedVariables false
set_option linter.unnecessarySimpa false
namespace Go.Ev
section
variable {g : Cfg} {d N : Nat} {G : Gh} {σ : St} {w : World} {a : Act} {dst : Option Nat} {ty : TypeId} {pos : String} {after : Array Edge} {guard : Option (Nat × Bool)}

theorem kept_setRow {w : World} {b : Nat} {arr arr' : Array Value} {e : TypeId} (ha : w.heap[b]? = some (.cells arr e (0, 0))) : Kept w (w.setRow b arr') := by
  refine ⟨⟨rfl, rfl, rfl⟩, fun a hlt => ⟨by rwa [setRow_size], ?_⟩⟩
  by_cases h : a.block = b
  · have h1 : (w.setRow b arr').heap[a.block]? = some (.cells arr' e (0, 0)) := by rw [h]; exact setRow_heap w b arr arr' e _ ha
    have h2 : w.heap[a.block]? = some (.cells arr e (0, 0)) := by rw [h]; exact ha
    simp [World.frozen?, h1, h2]
  · simp [World.frozen?, setRow_other w b a.block arr' h]

/-- a box is written -/
theorem Sim.setBox {tm : Array Value} (h : Sim d N G σ tm w) {k : Key} {arr arr' : Array Value} {e : TypeId} {cs0 cs' : List C} (hk0 : σ.mem k = some cs0) (hk1 : cs0 ≠ [])
    (ha : w.heap[G.β k]? = some (.cells arr e (0, 0))) (hb : G.own (G.β k) = some (.box k)) (hz : arr'.size = arr.size) (hr : RCs w G (.cell k) [] 0 cs' (arr'.toList.take cs'.length)) :
    Sim d N G { σ with mem := upd σ.mem k (some cs') } tm (w.setRow (G.β k) arr') ∧ Frm d G w G (w.setRow (G.β k) arr') := by
  have hk : (σ.mem k).isSome = true := by rw [hk0]; rfl
  have hne : ∀ b, G.own b ≠ some (.box k) → b ≠ G.β k := fun b hb' e => hb' (e ▸ hb)
  have hH : ∀ o p, Hands w G (w.setRow (G.β k) arr') G o p o p fun _ => false := fun o p =>
    { tag := fun b q _ hq => ⟨hq, rfl, setRow_other w _ b _ (hne b (by rw [hq]; simp))⟩
      nil := fun _ _ h => h
      box := fun _ _ h => h
      use := fun _ _ _ => Nat.le_refl _
      cell := fun b off _ hk' _ => World.cell?_of_block (setRow_other w _ b _ (hne b (hk' k)))
      live := fun k' hl _ => ⟨hl, rfl, rfl⟩ }
  refine ⟨{ sz := h.sz, env := fun t => (hH _ _).ra0 (h.env t), mem := fun k2 cs2 hk2 hn2 => ?_, live := fun k2 => ?_, dep := h.dep, wf := fun b t hb' => by rw [setRow_size]; exact h.wf b t hb', wfb := h.wfb, wfc := h.wfc, age := h.age, fut := fun b hb => h.fut b (by rwa [setRow_size] at hb), aged := h.aged },
    { size := by rw [setRow_size]; exact Nat.le_refl _, kept := kept_setRow ha, same := fun b _ ht => ⟨setRow_other w _ b _ (fun e => ht (by rw [e, hb]; trivial)), rfl, rfl⟩, age := fun _ _ _ => rfl, box := fun _ _ _ h => h, use := fun _ _ _ => Nat.le_refl _, cell := fun b off hb _ => (hH .ret []).cell b off hb, live := fun _ h _ => ⟨h, rfl, rfl⟩ }⟩
  · by_cases hkk : k2 = k
    · subst hkk
      have : upd σ.mem k2 (some cs') k2 = some cs2 := hk2
      simp only [upd, if_true, Option.some.injEq] at this
      subst this
      obtain ⟨arr0, e0, h1, _, h2, _⟩ := h.mem k2 cs0 hk0 hk1
      rw [ha] at h1
      cases h1
      exact ⟨arr', e, setRow_heap w _ arr arr' e _ ha, hb, hz.trans h2, (hH _ _).rcs0 hr⟩
    · have : upd σ.mem k (some cs') k2 = some cs2 := hk2
      simp only [upd, hkk, if_false] at this
      obtain ⟨arr2, e2, h1, h2, h2c, h3⟩ := h.mem k2 cs2 this hn2
      refine ⟨arr2, e2, ?_, h2, h2c, (hH _ _).rcs0 h3⟩
      rw [setRow_other w _ _ _ (hne _ (by rw [h2]; simpa using hkk))]
      exact h1
  · rw [h.live k2]
    show (σ.mem k2).isSome = true ↔ (upd σ.mem k (some cs') k2).isSome = true
    by_cases hkk : k2 = k
    · subst hkk; simp [upd, hk]
    · simp [upd, hkk]

/-- what a slot has goes to the cells of a box, from 'off' on -/
def slotT (d t : Nat) (k : Key) (off : Nat) (agg : Bool) : Tag → Tag
  | .at (.slot d' t') q => if d' = d ∧ t' = t then (if agg then (match q with | [] => .at .ret [] | j :: q' => .at (.cell k) ((off + j) :: q')) else .at (.cell k) (off :: q)) else .at (.slot d' t') q
  | x => x

theorem slotT_ok {d : Nat} (t : Nat) (k : Key) (off : Nat) (agg : Bool) (hkd : k.1 ≤ d) : RenOK d (slotT d t k off agg) where
  dp x p := by
    cases x with
    | cell k' => exact Nat.le_refl _
    | ret => exact Nat.le_refl _
    | slot d' t' =>
      simp only [slotT]
      split
      · rename_i hc
        rw [hc.1]
        cases agg with
        | true => cases p with
          | nil => exact Nat.le_refl _
          | cons j q => exact hkd
        | false => exact hkd
      · exact Nat.le_refl _
  box _ := rfl
  foreign := rfl
  at_ x p := by
    cases x with
    | cell k' => exact ⟨_, _, rfl⟩
    | ret => exact ⟨_, _, rfl⟩
    | slot d' t' =>
      by_cases hc : d' = d ∧ t' = t
      · simp only [slotT]
        rw [if_pos hc]
        cases agg with
        | true => cases p <;> exact ⟨_, _, rfl⟩
        | false => exact ⟨_, _, rfl⟩
      · simp only [slotT]
        rw [if_neg hc]
        exact ⟨_, _, rfl⟩
  keep x hx := by
    cases x with
    | foreign => rfl
    | box k => rfl
    | «at» o p =>
      cases o with
      | cell k' => rfl
      | ret => rfl
      | slot d' t' =>
        simp only [slotT]
        rw [if_neg]
        rintro ⟨rfl, _⟩
        exact hx (Nat.le_refl _)

def isAgV : AV → Bool
  | .ag _ => true
  | _ => false

theorem RA_cells {o : Ow} {x : AV} {v : Value} {cs : List C} (hc : x.cells = some cs) (h : RA w G o x v) :
    v.cells.size = cs.length ∧ ∀ j c, cs[j]? = some c → ∃ y, v.cells.toList[j]? = some y ∧ RC w G o (if isAgV x then [j] else []) c y := by
  cases x with
  | one c =>
    have hd : c.isDead = false ∧ cs = [c] := by
      cases c <;> simp [AV.cells] at hc <;> exact ⟨rfl, hc.symm⟩
    obtain ⟨hd, rfl⟩ := hd
    have hv : v.cells = #[v] := by
      cases c with
      | s u => obtain ⟨rfl, hs⟩ := h; cases v <;> first | rfl | simp [scal] at hs
      | l m n es =>
        have h' : RD w G o m [] (.sl n es) v := h
        rw [RD] at h'
        rcases h' with ⟨_, _, ad, cap, rfl, _⟩ | ⟨_, _, b, off, cap, rfl, _⟩ <;> rfl
      | ep m es ps => obtain ⟨_, _, b, off, rfl, _⟩ := h; rfl
      | ptr k off => obtain ⟨_, rfl⟩ := h; rfl
      | fn f caps => obtain ⟨_, vs, rfl, _⟩ := h; rfl
      | bs k n sz => obtain ⟨_, _, ba, cap, rfl, _⟩ := h; rfl
      | dead => simp [C.isDead] at hd
    refine ⟨by rw [hv]; rfl, fun j c' hj => ?_⟩
    cases j with
    | zero => cases hj; exact ⟨v, by rw [hv]; rfl, h⟩
    | succ j => simp at hj
  | ag cs' =>
    cases hc
    obtain ⟨vs, rfl, hl, hg⟩ := h
    exact ⟨by simpa [Value.cells] using hl, fun j c hj => by
      obtain ⟨y, hy, hr⟩ := hg j c hj
      exact ⟨y, hy, by simpa [isAgV] using hr⟩⟩
  | tu l => cases hc

/-- an operand's cells, laid into a box's cells: the account behind it -/
theorem Sim.takeCells {tm : Array Value} {env : Operand → Value} (h : Sim d N G σ tm w) (he : ∀ t, env (.tmp t) = tm.getD t undef) (he2 : ∀ v, env (.const v) = v) (he3 : ∀ f, env (.func f) = .func (.func f) #[] #[]) (x : Operand) (k : Key) (off : Nat) (hk : (σ.mem k).isSome = true)
    {cs : List C} (hc : (Ev.opnd σ.env x).cells = some cs) :
    ∃ G', Sim d N G' { σ with env := Ev.kil σ.env x } tm w ∧ Frm d G w G' w ∧ G'.β = G.β ∧ G'.live = G.live ∧ (env x).cells.size = cs.length ∧
      (∀ k', (∀ i, G.own (G.β k') = some (.box i) → G'.own (G.β k') = some (.box i))) ∧
      (∀ j c, cs[j]? = some c → ∃ y, (env x).cells.toList[j]? = some y ∧ RC w G' (.cell k) [off + j] c y) ∧
      (∀ k' p c v, RC w G (.cell k') p c v → RC w G' (.cell k') p c v) := by
  cases x with
  | tmp t =>
    have hφ := slotT_ok (d := d) t k off (isAgV (σ.env t)) (h.dep k ((h.live k).2 hk))
    have hra := RA_cells hc (h.env t)
    refine ⟨Ev.ren G (slotT d t k off (isAgV (σ.env t))), h.ren hφ _ _ (fun t2 => ?_) (Sim.memSame _ fun k q => rfl) ?_, hφ.frm G w, rfl, rfl, by rw [he]; exact hra.1, fun k' i hi => by rw [ren_own, hi]; rfl, fun j c hj => ?_, fun k' p c v hr => ?_⟩
    · by_cases ht : t2 = t
      · left; simp [Ev.kil, upd, ht]
      · right
        refine ⟨by simp [Ev.kil, upd, ht], fun q => ?_⟩
        simp [slotT, ht]
    · intro o p k2 q hq
      cases o with
      | cell k3 => left; simp only [slotT, Tag.at.injEq, Ow.cell.injEq] at hq; exact ⟨k3, rfl, hq.1⟩
      | ret => simp [slotT] at hq
      | slot d' t' =>
        simp only [slotT] at hq
        split at hq
        · right
          have hk2 : k2 = k := by
            cases hag : isAgV (σ.env t) with
            | true =>
              rw [hag] at hq
              cases p with
              | nil => simp at hq
              | cons j q' => simp at hq; exact hq.1.symm
            | false => rw [hag] at hq; simp at hq; exact hq.1.symm
          rw [hk2, h.live k]
          exact hk
        · cases hq
    · obtain ⟨y, hy, hr⟩ := hra.2 j c hj
      refine ⟨y, by rw [he]; exact hy, (hφ.hands G w (o := .slot d t) (o' := .cell k) (p := if isAgV (σ.env t) then [j] else []) (p' := [off + j]) fun q => ?_).rc0 hr⟩
      cases hag : isAgV (σ.env t) with
      | true => simp [slotT]
      | false =>
        have hj0 : j = 0 := by
          have hl : cs.length = 1 := by
            have hc' : (σ.env t).cells = some cs := hc
            cases hx : σ.env t with
            | one c0 => rw [hx] at hc'; cases c0 <;> simp [AV.cells] at hc' <;> (rw [← hc']; rfl)
            | ag l => rw [hx] at hag; simp [isAgV] at hag
            | tu l => rw [hx] at hc'; simp [AV.cells] at hc'
          rcases Nat.lt_or_ge j cs.length with hlt | hge
          · omega
          · rw [List.getElem?_eq_none hge] at hj; cases hj
        subst hj0
        simp [slotT]
    · exact (hφ.hands G w (o := .cell k') (p := p) (p' := p) fun q => rfl).rc0 hr
  | const v =>
    have hra := RA_cells hc (RA_ofValue (w := w) (G := G) (o := .cell k) v)
    refine ⟨G, h, Frm.refl _ _ _, rfl, rfl, by rw [he2]; exact hra.1, fun _ _ h => h, fun j c hj => ?_, fun _ _ _ _ h => h⟩
    obtain ⟨y, hy, hr⟩ := hra.2 j c hj
    refine ⟨y, by rw [he2]; exact hy, ?_⟩
    have hcv : ∃ u, c = C.ofValue u := by
      have hc' : (AV.ofValue v).cells = some cs := hc
      unfold AV.ofValue at hc'
      split at hc'
      · simp only [AV.cells, Option.some.injEq] at hc'
        subst hc'
        rw [List.getElem?_map] at hj
        cases hq : (Array.toList _)[j]? with
        | none => rw [hq] at hj; cases hj
        | some u => rw [hq] at hj; cases hj; exact ⟨u, rfl⟩
      · have hd : cs = [C.ofValue v] := by
          revert hc'
          cases C.ofValue v <;> simp [AV.cells] <;> intro h <;> exact h.symm
        subst hd
        cases j with
        | zero => cases hj; exact ⟨v, rfl⟩
        | succ j => simp at hj
    obtain ⟨u, rfl⟩ := hcv
    have hyu : RC w G (.cell k) [off + j] (C.ofValue u) y := by
      unfold C.ofValue at hr ⊢
      split
      · rename_i hs; rw [if_pos hs] at hr; exact hr
      · rename_i hs
        rw [if_neg hs] at hr
        split
        · have hr' : RD w G _ .own _ (.sl 0 []) y := hr
          show RD w G _ .own _ (.sl 0 []) y
          rw [RD] at hr' ⊢
          rcases hr' with hr' | ⟨h1, _⟩
          · exact .inl hr'
          · exact absurd rfl h1
        · exact trivial
    exact hyu
  | global gl => simp [Ev.opnd, AV.cells] at hc
  | func f =>
    simp only [Ev.opnd, AV.cells, Option.some.injEq] at hc
    subst hc
    refine ⟨G, h, Frm.refl _ _ _, rfl, rfl, by rw [he3]; rfl, fun _ _ h => h, fun j c hj => ?_, fun _ _ _ _ h => h⟩
    cases j with
    | zero => cases hj; exact ⟨_, by rw [he3]; rfl, ⟨fun c hc => (List.not_mem_nil hc).elim, #[], rfl, rfl⟩⟩
    | succ j => simp at hj

theorem oneCell_of_RC {o : Ow} {p : List Nat} {c : C} {v : Value} (hd : c.isDead = false) (h : RC w G o p c v) : v.oneCell' = true := by
  cases c with
  | s u => obtain ⟨rfl, hs⟩ := h; cases v <;> first | rfl | simp [scal] at hs
  | l m n es =>
    have h' : RD w G o m p (.sl n es) v := h
    rw [RD] at h'
    rcases h' with ⟨_, _, ad, cap, rfl, _⟩ | ⟨_, _, b, off, cap, rfl, _⟩ <;> rfl
  | ep m es ps => obtain ⟨_, _, b, off, rfl, _⟩ := h; rfl
  | ptr k off => obtain ⟨_, rfl⟩ := h; rfl
  | fn f caps => obtain ⟨_, vs, rfl, _⟩ := h; rfl
  | bs k n sz => obtain ⟨_, _, ba, cap, rfl, _⟩ := h; rfl
  | dead => simp [C.isDead] at hd

theorem splice_take {α : Type} (l : List α) (n off : Nat) (new : List α) (h : off + new.length ≤ n) (hn : n ≤ l.length) : (splice l off new).take n = splice (l.take n) off new := by
  apply List.ext_getElem?
  intro j
  rw [splice_get _ _ _ (by rw [List.length_take]; omega), List.getElem?_take, splice_get _ _ _ (by omega), List.getElem?_take]
  split
  · split <;> rfl
  · rw [if_neg (by omega)]

theorem ok_store (h : Sim d N G σ a.tmps w) (hd : dst.all (· < N) = true) (t : TypeId) (x y : Operand) {i : TI} (hi : ti g.P t = some i) {k : Key} {off : Nat} (hx : opnd σ.env x = .one (.ptr k off))
    {cs new : List C} (hm : σ.mem k = some cs) (hn : (opnd σ.env y).cells = some new) (hl0' : new.length = i.size ∧ off + i.size ≤ cs.length ∧ new.all (fun c => !c.isDead) = true ∧ 0 < i.size) :
    OpOK g.P d N G w a { dst, op := .store t x y, type := ty, pos, after, guard } { env := kil σ.env y, mem := upd σ.mem k (some (splice cs off new)) } .dead := by
  have hxv := h.opnd x
  rw [hx] at hxv
  obtain ⟨hlv, hxv⟩ := hxv
  have hl : new.length = i.size ∧ off + i.size ≤ cs.length ∧ new.all (fun c => !c.isDead) = true := ⟨hl0'.1, hl0'.2.1, hl0'.2.2.1⟩
  have hcne : cs ≠ [] := by rintro rfl; have := hl0'.2.2.2; have := hl.2.1; simp at this; omega
  obtain ⟨G', hS, hF, hβ, hlive, hsz, hbx, hcs, hcell⟩ := h.takeCells (env := a.eval) (fun _ => rfl) (fun _ => rfl) (fun _ => rfl) y k off (by rw [hm]; rfl) hn
  obtain ⟨arr, e, ha, hb, hcap, hc⟩ := h.mem k cs hm hcne
  have hlen : cs.length ≤ arr.size := by have h9 := hc.1; rw [List.length_take] at h9; rw [← Array.length_toList]; omega
  have hnl : (a.eval y).cells.toList.length = i.size := by rw [Array.length_toList, hsz, hl.1]
  have h1 : ∀ v ∈ (a.eval y).cells.toList, v.oneCell' = true := by
    intro v hv
    obtain ⟨j, hj⟩ := List.getElem?_of_mem hv
    have hjl : j < new.length := by
      rcases Nat.lt_or_ge j new.length with hlt | hge
      · exact hlt
      · rw [List.getElem?_eq_none (by rw [Array.length_toList, hsz]; exact hge)] at hj; cases hj
    obtain ⟨v', hv', hr⟩ := hcs j new[j] (List.getElem?_eq_getElem hjl)
    rw [hj] at hv'
    cases hv'
    have := List.all_eq_true.1 hl.2.2 new[j] (List.getElem_mem hjl)
    exact oneCell_of_RC (by simpa using this) hr
  have hst := run_storeCells_at g.P (G.β k) off e (a.eval y).cells.toList 0 arr w ha (by rw [hnl]; have := hl.2.1; omega) h1
  rw [Nat.add_zero] at hst
  have hrun : (execOp a.eval { dst, op := .store t x y, type := ty, pos, after, guard }).run g.P w = .ok .skip (w.setRow (G.β k) (splice arr.toList off (a.eval y).cells.toList).toArray) := by
    simp only [execOp, hxv, Instr.storeAt, Instr.sureAddr, storeVar, Sem.run_bind, Sem.run_pure, Result.andThen_ok, ti_size hi, hsz, hl.1]
    simp [hst, splice]
  have hb' : G'.own (G'.β k) = some (.box k) := by rw [hβ]; exact hbx k k hb
  have hl0 : off + (a.eval y).cells.toList.length ≤ arr.toList.length := by rw [hnl, Array.length_toList]; have := hl.2.1; omega
  have hnew : RCs w G' (.cell k) [] 0 (splice cs off new) ((splice arr.toList off (a.eval y).cells.toList).take (splice cs off new).length) := by
    have hl1 : off + new.length ≤ cs.length := by rw [hl.1]; exact hl.2.1
    rw [splice_length _ _ _ hl1, splice_take _ _ _ _ (by rw [hnl]; exact hl.2.1) (by rw [Array.length_toList]; exact hlen)]
    have hl2 : off + (a.eval y).cells.toList.length ≤ (arr.toList.take cs.length).length := by rw [hc.1, hnl]; exact hl.2.1
    refine ⟨by rw [splice_length _ _ _ hl1, splice_length _ _ _ hl2, hc.1], fun j c hj => ?_⟩
    rw [splice_get _ _ _ hl1] at hj
    rw [splice_get _ _ _ hl2, hnl, ← hl.1]
    split at hj
    · rename_i hin
      rw [if_pos hin]
      obtain ⟨v, hv, hr⟩ := hcs (j - off) c hj
      refine ⟨v, hv, ?_⟩
      rw [show off + (j - off) = j by omega] at hr
      simpa using hr
    · rename_i hin
      rw [if_neg hin]
      obtain ⟨v, hv, hr⟩ := hc.2 j c hj
      exact ⟨v, hv, hcell _ _ _ _ hr⟩
  obtain ⟨hS2, hF2⟩ := hS.setBox (k := k) (arr := arr) (e := e) (arr' := (splice arr.toList off (a.eval y).cells.toList).toArray) (cs' := splice cs off new) (cs0 := cs) hm hcne (by rw [hβ]; exact ha) hb' (by rw [List.size_toArray, splice_length _ _ _ hl0, Array.length_toList]) (by simpa using hnew)
  rw [hβ] at hS2 hF2
  exact ⟨undef, _, G', .inr ⟨hrun, rfl⟩, hF.trans hF2, hS2.put hd fun _ _ => trivial⟩

end
end Go.Ev
