import Derived.Test.YtahcfnjgllpkdaaEvSim2
set_option linter.unusedSimpArgs false
set_option linter.unusedVariables false
set_option linter.unnecessarySimpa false
namespace Go.Ev

theorem Hands.ra0 {w : World} {G : Gh} {w' : World} {G' : Gh} {o o' : Ow} (h : Hands w G w' G' o [] o' [] fun _ => false) {a : AV} {v : Value}
    (hr : RA w G o a v) : RA w' G' o' a v := by
  have := h.ra hr
  rwa [AV.kill_none] at this
theorem Hands.rc0 {w : World} {G : Gh} {w' : World} {G' : Gh} {o o' : Ow} {p p' : List Nat} (h : Hands w G w' G' o p o' p' fun _ => false) {c : C} {v : Value}
    (hr : RC w G o p c v) : RC w' G' o' p' c v := by
  have := h.rc hr
  rwa [C.kill_none] at this
theorem Hands.rcs0 {w : World} {G : Gh} {w' : World} {G' : Gh} {o o' : Ow} {p p' : List Nat} (h : Hands w G w' G' o p o' p' fun _ => false) {i : Nat} {cs : List C} {vs : List Value}
    (hr : RCs w G o p i cs vs) : RCs w' G' o' p' i cs vs := by
  have := h.rcs hr
  rwa [map_kill_none] at this

/-- what may be let go: slots and cells turned to 'dead' -/
theorem Sim.ren {d N : Nat} {G : Gh} {σ : St} {w : World} {tm : Array Value} (h : Sim d N G σ tm w) {φ : Tag → Tag} (hφ : RenOK d φ) (env' : Nat → AV) (mem' : Mem)
    (he : ∀ t, env' t = .dead ∨ (env' t = σ.env t ∧ ∀ q, φ (.at (.slot d t) q) = .at (.slot d t) q))
    (hm : ∀ k, (mem' k = none ∧ σ.mem k = none) ∨ ∃ cs cs', σ.mem k = some cs ∧ mem' k = some cs' ∧ cs'.length = cs.length ∧
      ∀ (i : Nat) c', cs'[i]? = some c' → c' = .dead ∨ (cs[i]? = some c' ∧ ∀ q, φ (.at (.cell k) (i :: q)) = .at (.cell k) (i :: q)))
    (hnew : ∀ o p k q, φ (.at o p) = .at (.cell k) q → (∃ k', o = .cell k' ∧ k' = k) ∨ G.live k) : Sim d N (Ev.ren G φ) { env := env', mem := mem' } tm w where
  sz := h.sz
  env t := by
    rcases he t with he | ⟨he, hq⟩
    · show RA _ _ _ (env' t) _; rw [he]; exact trivial
    · show RA _ _ _ (env' t) _; rw [he]
      exact (hφ.hands G w (p := []) (p' := []) hq).ra0 (h.env t)
  mem k cs' hk hn2 := by
    rcases hm k with ⟨h1, _⟩ | ⟨cs, cs1, h1, h2, h3, h4⟩
    · have hk' : mem' k = some cs' := hk
      rw [h1] at hk'; cases hk'
    · have hk' : mem' k = some cs' := hk
      rw [h2] at hk'
      obtain rfl := Option.some.inj hk'
      obtain ⟨arr, e, ha, hb, hcap, hc⟩ := h.mem k cs h1 (by rintro rfl; exact hn2 (List.length_eq_zero_iff.1 (by rw [h3]; rfl)))
      refine ⟨arr, e, ha, by rw [ren_own]; show Option.map φ (G.own (G.β k)) = _; rw [hb, Option.map_some, hφ.box], hcap, by rw [h3]; exact hc.1, fun j c hj => ?_⟩
      rw [h3]
      rcases h4 j c hj with rfl | ⟨hj', hq⟩
      · have hlt : j < (arr.toList.take cs.length).length := by
          rw [hc.1, ← h3]
          rcases Nat.lt_or_ge j cs1.length with hl | hl
          · exact hl
          · rw [List.getElem?_eq_none hl] at hj; cases hj
        exact ⟨_, List.getElem?_eq_getElem hlt, trivial⟩
      · obtain ⟨x, hx, hr⟩ := hc.2 j c hj'
        exact ⟨x, hx, (hφ.hands G w (o := .cell k) (p := [0 + j]) (p' := [0 + j]) (by simpa using hq)).rc0 hr⟩
  live k := by
    rw [show (Ev.ren G φ).live k = G.live k from rfl, h.live k]
    rcases hm k with ⟨h1, h2⟩ | ⟨cs, cs1, h1, h2, _⟩
    · simp only [h1, h2]
    · simp only [h1, h2]; simp
  dep k hk := h.dep k hk
  wf b t hb := by
    rw [ren_own] at hb
    cases ho : G.own b with
    | none => rw [ho] at hb; cases hb
    | some t0 => exact h.wf b t0 ho
  wfb b k hb := by
    rw [ren_own] at hb
    cases ho : G.own b with
    | none => rw [ho] at hb; cases hb
    | some t0 =>
      rw [ho] at hb
      simp only [Option.map_some, Option.some.injEq] at hb
      cases t0 with
      | foreign => rw [hφ.foreign] at hb; cases hb
      | box k' => rw [hφ.box] at hb; cases hb; exact h.wfb b k ho
      | «at» o p => obtain ⟨o', p', he⟩ := hφ.at_ o p; rw [he] at hb; cases hb
  wfc b k p hb := by
    rw [ren_own] at hb
    cases ho : G.own b with
    | none => rw [ho] at hb; cases hb
    | some t0 =>
      rw [ho] at hb
      simp only [Option.map_some, Option.some.injEq] at hb
      cases t0 with
      | foreign => rw [hφ.foreign] at hb; cases hb
      | box k' => rw [hφ.box] at hb; cases hb
      | «at» o p =>
        rcases hnew o p k _ hb with ⟨k', rfl, rfl⟩ | hl
        · exact h.wfc b _ p ho
        · exact hl
  age := h.age
  fut := h.fut
  aged b t hb := by
    rw [ren_own] at hb
    cases ho : G.own b with
    | none => rw [ho] at hb; cases hb
    | some t0 =>
      rw [ho] at hb
      simp only [Option.map_some, Option.some.injEq] at hb
      subst hb
      exact Nat.le_trans (hφ.tagdep t0) (h.aged b t0 ho)

theorem Sim.memSame {σ : St} (φ : Tag → Tag) (hc : ∀ k q, φ (.at (.cell k) q) = .at (.cell k) q) : ∀ k, (σ.mem k = none ∧ σ.mem k = none) ∨ ∃ cs cs', σ.mem k = some cs ∧ σ.mem k = some cs' ∧ cs'.length = cs.length ∧
      ∀ (i : Nat) c', cs'[i]? = some c' → c' = C.dead ∨ (cs[i]? = some c' ∧ ∀ q, φ (.at (.cell k) (i :: q)) = .at (.cell k) (i :: q)) := by
  intro k
  cases hk : σ.mem k with
  | none => exact .inl ⟨rfl, rfl⟩
  | some cs => exact .inr ⟨cs, cs, rfl, rfl, rfl, fun i c' hc' => .inr ⟨hc', fun q => hc k _⟩⟩

/-- all that one owner has goes to another -/
def mvT (o o' : Ow) : Tag → Tag
  | .at x p => if x = o then .at o' p else .at x p
  | t => t

theorem mvT_ok {d : Nat} {o o' : Ow} (h : touch d (some (.at o []))) (hd : o'.dep d ≤ o.dep d) : RenOK d (mvT o o') where
  dp x p := by
    simp only [mvT]
    split
    · rename_i hx; subst hx; exact hd
    · exact Nat.le_refl _
  box _ := rfl
  foreign := rfl
  at_ x p := by
    by_cases hx : x = o
    · exact ⟨o', p, by simp [mvT, hx]⟩
    · exact ⟨x, p, by simp [mvT, hx]⟩
  keep t ht := by
    cases t with
    | foreign => rfl
    | box k => rfl
    | «at» x p =>
      simp only [mvT]
      split
      · rename_i hx
        subst hx
        exfalso; apply ht
        cases x <;> exact h
      · rfl

theorem Sim.mv {d N : Nat} {G : Gh} {σ : St} {w : World} {tm : Array Value} (h : Sim d N G σ tm w) (t t' : Nat) :
    ∃ G', Sim d N G' { σ with env := upd σ.env t .dead } tm w ∧ RA w G' (.slot d t') (σ.env t) (tm.getD t undef) ∧ Frm d G w G' w := by
  have hφ : RenOK d (mvT (.slot d t) (.slot d t')) := mvT_ok (Nat.le_refl d) (Nat.le_refl d)
  refine ⟨Ev.ren G (mvT (.slot d t) (.slot d t')), h.ren hφ _ _ (fun t2 => ?_) (Sim.memSame _ fun k q => by simp [mvT]) ?_, ?_, hφ.frm G w⟩
  · by_cases ht : t2 = t
    · left; simp [upd, ht]
    · right
      refine ⟨by simp [upd, ht], fun q => ?_⟩
      simp [mvT, ht]
  · intro o p k q hq
    left
    simp only [mvT] at hq
    split at hq
    · cases hq
    · simp only [Tag.at.injEq] at hq; exact ⟨k, hq.1, rfl⟩
  · exact (hφ.hands G w (p := []) (p' := []) (fun q => by simp [mvT])).ra0 (h.env t)

/-- an operand's value, taken -/
theorem Sim.take {d N : Nat} {G : Gh} {σ : St} {w : World} {a : Act} (h : Sim d N G σ a.tmps w) (x : Operand) (t' : Nat) :
    ∃ G', Sim d N G' { σ with env := Ev.kil σ.env x } a.tmps w ∧ RA w G' (.slot d t') (Ev.opnd σ.env x) (a.eval x) ∧ Frm d G w G' w := by
  cases x with
  | tmp t => exact h.mv t t'
  | const v => exact ⟨G, h, RA_ofValue v, Frm.refl _ _ _⟩
  | global g => exact ⟨G, h, trivial, Frm.refl _ _ _⟩
  | func f => exact ⟨G, h, ⟨fun c hc => (List.not_mem_nil hc).elim, #[], rfl, rfl⟩, Frm.refl _ _ _⟩

/-- What is to be shown of an operation. -/
def OpOK (P : Program) (d N : Nat) (G : Gh) (w : World) (a : Act) (o : Oper) (σ' : St) (v : AV) : Prop :=
  ∃ r w' G', ((execOp a.eval o).run P w = .ok (.value r) w' ∨ ((execOp a.eval o).run P w = .ok .skip w' ∧ r = undef)) ∧ Frm d G w G' w' ∧
    Sim d N G' { σ' with env := putD σ'.env o.dst v } (a.put o.dst r).tmps w'

theorem OpOK.mk {P : Program} {d N : Nat} {G : Gh} {w : World} {a : Act} {o : Oper} {σ' : St} {v : AV} {G' : Gh} {r : Value} {w' : World} (hd : o.dst.all (· < N) = true)
    (hrun : (execOp a.eval o).run P w = .ok (.value r) w') (hF : Frm d G w G' w') (hS : Sim d N G' σ' a.tmps w') (hv : ∀ t, o.dst = some t → RA w' G' (.slot d t) v r) : OpOK P d N G w a o σ' v :=
  ⟨r, w', G', .inl hrun, hF, hS.put hd hv⟩

section
variable {P : Program} {d N : Nat} {G : Gh} {σ : St} {w : World} {a : Act} {dst : Option Nat} {ty : TypeId} {pos : String} {after : Array Edge} {guard : Option (Nat × Bool)}

theorem ok_move (h : Sim d N G σ a.tmps w) (hd : dst.all (· < N) = true) (x : Operand) :
    OpOK P d N G w a { dst, op := .move x, type := ty, pos, after, guard } σ (opnd σ.env x).copy :=
  OpOK.mk hd rfl (Frm.refl _ _ _) h fun t _ => RA_copy (h.opnd x)

theorem ok_take (h : Sim d N G σ a.tmps w) (hd : dst.all (· < N) = true) (x : Operand) (op : Op) (hop : op = .move x ∨ op = .assign x) :
    OpOK P d N G w a { dst, op, type := ty, pos, after, guard } { σ with env := kil σ.env x } (opnd σ.env x) := by
  have hrun : (execOp a.eval { dst, op, type := ty, pos, after, guard }).run P w = .ok (.value (a.eval x)) w := by
    rcases hop with rfl | rfl <;> rfl
  cases dst with
  | none =>
    obtain ⟨G', hS, _, hF⟩ := h.take x 0
    exact OpOK.mk hd hrun hF hS (fun _ ht => by cases ht)
  | some t =>
    obtain ⟨G', hS, hR, hF⟩ := h.take x t
    exact OpOK.mk hd hrun hF hS (fun _ ht => by cases ht; exact hR)

theorem toBool_ok {G : Gh} {o : Ow} {x : AV} {v : Value} {b : Bool} (hb : toBool x = some b) (h : RA w G o x v) : v = .bool b := by
  unfold toBool at hb
  split at hb
  · cases hb; exact h.1
  · cases hb

theorem toInt_ok {G : Gh} {o : Ow} {x : AV} {v : Value} {n : Int} (hb : toInt x = some n) (h : RA w G o x v) : v = .int .i64 n := by
  unfold toInt at hb
  split at hb
  · cases hb; exact h.1
  · cases hb

theorem ok_pick (h : Sim d N G σ a.tmps w) (hd : dst.all (· < N) = true) (c x y : Operand) {b : Bool} (hb : toBool (opnd σ.env c) = some b) :
    OpOK P d N G w a { dst, op := .pick c x y, type := ty, pos, after, guard } σ (opnd σ.env (if b then x else y)).copy := by
  have hc := toBool_ok hb (h.opnd c)
  refine OpOK.mk (r := a.eval (if b then x else y)) hd ?_ (Frm.refl _ _ _) h fun t _ => RA_copy (h.opnd _)
  simp only [execOp, hc, asBool]
  cases b <;> rfl

/-! scalar operations -/
theorem pureOf_run {α : Type} : ∀ (s : Sem α) (x : α), pureOf P s = some x → ∀ w : World, s.run P w = .ok x w
  | .pure a, x, h, w => by rw [pureOf] at h; cases h; rfl
  | .program k, x, h, w => by rw [pureOf] at h; exact pureOf_run (k P) x h w
  | .load .., x, h, w => by simp [pureOf] at h
  | .store .., x, h, w => by simp [pureOf] at h
  | .new .., x, h, w => by simp [pureOf] at h
  | .shape .., x, h, w => by simp [pureOf] at h
  | .freeze .., x, h, w => by simp [pureOf] at h
  | .frozen .., x, h, w => by simp [pureOf] at h
  | .getObj .., x, h, w => by simp [pureOf] at h
  | .setObj .., x, h, w => by simp [pureOf] at h
  | .choose .., x, h, w => by simp [pureOf] at h
  | .sys .., x, h, w => by simp [pureOf] at h
  | .mark .., x, h, w => by simp [pureOf] at h
  | .halt .., x, h, w => by simp [pureOf] at h

theorem svals_ok {G : Gh} {o : Ow} {p : List Nat} : ∀ {cs : List C} {us vs : List Value} {i : Nat}, cs.mapM C.sval = some us → RCs w G o p i cs vs → vs = us
  | [], us, vs, i, h, hr => by
    simp at h
    subst h
    exact List.length_eq_zero_iff.1 hr.1
  | c :: cs, us, [], i, h, hr => by have := hr.1; simp at this
  | c :: cs, us, v :: vs, i, h, hr => by
    rw [List.mapM_cons] at h
    simp only [bind, Option.bind_eq_some_iff, pure, Option.some.injEq] at h
    obtain ⟨u, hu, us', hus, rfl⟩ := h
    obtain ⟨x, hx, hrc⟩ := hr.2 0 c rfl
    cases hx
    have hv : v = u := by
      cases c with
      | s y => simp only [C.sval, Option.some.injEq] at hu; rw [← hu]; exact hrc.1
      | _ => simp [C.sval] at hu
    have := svals_ok (i := i + 1) hus (vs := vs) ⟨by simpa using hr.1, fun j c' hj => by
      obtain ⟨y, hy, hr'⟩ := hr.2 (j + 1) c' hj
      exact ⟨y, hy, by rw [show i + 1 + j = i + (j + 1) by omega]; exact hr'⟩⟩
    rw [hv, this]

theorem sclr_ok {G : Gh} {o : Ow} {x : AV} {v : Value} (h : RA w G o x v) {u : Value} (hu : sclr x = some u) : v = u := by
  unfold sclr at hu
  split at hu
  · cases hu; exact h.1
  · rw [Option.map_eq_some_iff] at hu
    obtain ⟨us, hus, rfl⟩ := hu
    obtain ⟨vs, rfl, hr⟩ := h
    have := svals_ok hus hr
    rw [← this]
  · cases hu

theorem ok_scalar (h : Sim d N G σ a.tmps w) {o : Oper} (hd : o.dst.all (· < N) = true) (hs : ∀ cs b, o.op ≠ .select cs b) {v : Value} (hv : scalarOp P σ.env o = some v) :
    OpOK P d N G w a o σ (.one (.s v)) := by
  unfold scalarOp at hv
  split at hv
  · rename_i hall
    split at hv
    · rename_i v' hp
      split at hv
      · rename_i hsc
        cases hv
        have he : execOp a.eval o = execOp (fun x => (sclr (opnd σ.env x)).getD undef) o := by
          refine execOp_congr o hs fun x hx => ?_
          have hx' := Array.all_eq_true'.1 hall x hx
          obtain ⟨u, hu⟩ := Option.isSome_iff_exists.1 hx'
          rw [hu]
          exact sclr_ok (h.opnd x) hu
        refine OpOK.mk (r := v) hd ?_ (Frm.refl _ _ _) h fun t _ => ⟨rfl, hsc⟩
        rw [he]
        exact pureOf_run _ _ hp w
      · cases hv
    · cases hv
  · cases hv

end
end Go.Ev
