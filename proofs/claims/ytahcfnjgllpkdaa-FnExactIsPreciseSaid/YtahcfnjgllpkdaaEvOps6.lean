import Derived.Test.YtahcfnjgllpkdaaEvOps5
set_option linter.unusedSimpArgs false
set_option linter.unusedVariables false
set_option linter.unnecessarySimpa false
namespace Go.Ev
section
variable {g : Cfg} {d N : Nat} {G : Gh} {σ : St} {w : World} {a : Act} {dst : Option Nat} {ty : TypeId} {pos : String} {after : Array Edge} {guard : Option (Nat × Bool)}

/-- cell by cell -/
def Rel (Q : Nat → C → Value → Prop) (cs : List C) (vs : List Value) : Prop := vs.length = cs.length ∧ ∀ (j : Nat) c, cs[j]? = some c → ∃ y, vs[j]? = some y ∧ Q j c y

theorem foldl_set (off : Nat) : ∀ (l : List Value) (i : Nat) (arr : Array Value),
    ((l.zipIdx i).foldl (fun (cs : Array Value) (x : Value × Nat) => cs.setIfInBounds (off + x.2) x.1) arr).size = arr.size ∧
    ∀ k, ((l.zipIdx i).foldl (fun (cs : Array Value) (x : Value × Nat) => cs.setIfInBounds (off + x.2) x.1) arr)[k]? = if off + i ≤ k ∧ k < off + i + l.length ∧ k < arr.size then l[k - (off + i)]? else arr[k]?
  | [], i, arr => ⟨rfl, fun k => by rw [if_neg (by simp; omega)]; rfl⟩
  | x :: l, i, arr => by
    obtain ⟨h1, h2⟩ := foldl_set off l (i + 1) (arr.setIfInBounds (off + i) x)
    simp only [List.zipIdx_cons, List.foldl_cons]
    refine ⟨by rw [h1, Array.size_setIfInBounds], fun k => ?_⟩
    rw [h2 k, Array.size_setIfInBounds, Array.getElem?_setIfInBounds]
    by_cases hk : k = off + i
    · subst hk
      rw [if_neg (by omega)]
      simp only [if_true]
      by_cases hs : off + i < arr.size
      · rw [if_pos hs, if_pos ⟨Nat.le_refl _, by simp, hs⟩]
        simp
      · rw [if_neg hs, if_neg (fun hh => hs hh.2.2)]
        simp [hs]
    · simp only [Ne.symm hk, if_false]
      by_cases hc : off + (i + 1) ≤ k ∧ k < off + (i + 1) + l.length ∧ k < arr.size
      · rw [if_pos hc, if_pos ⟨by omega, by simp; omega, hc.2.2⟩]
        rw [show k - (off + i) = (k - (off + (i + 1))) + 1 by omega, List.getElem?_cons_succ]
      · rw [if_neg hc, if_neg (by simp; omega)]

theorem fill_ok {Q : Nat → C → Value → Prop} {place : Nat → Option (Nat × Nat)} : ∀ (ps : List (Nat × List C)) (vs : List (Nat × Value)) (cs : List C) (arr : Array Value) (cs' : List C),
    ps.length = vs.length → (∀ (i : Nat) p v, ps[i]? = some p → vs[i]? = some v → p.1 = v.1 ∧ v.2.cells.size = p.2.length ∧ ∀ off size, place p.1 = some (off, size) → ∀ (j : Nat) c, p.2[j]? = some c → ∃ y, v.2.cells.toList[j]? = some y ∧ Q (off + j) c y) →
    Rel Q cs arr.toList → fillC place cs ps = some cs' → ∃ arr', Instr.fill place arr vs = some arr' ∧ Rel Q cs' arr'.toList
  | [], [], cs, arr, cs', _, _, hr, hf => by
    simp only [fillC, Option.some.injEq] at hf
    subst hf
    exact ⟨arr, rfl, hr⟩
  | p :: ps, [], _, _, _, hl, _, _, _ => by simp at hl
  | [], v :: vs, _, _, _, hl, _, _, _ => by simp at hl
  | (i, pc) :: ps, (i', v) :: vs, cs, arr, cs', hl, hp, hr, hf => by
    obtain ⟨h1, h2, h3⟩ := hp 0 _ _ rfl rfl
    have h1' : i = i' := h1
    subst h1'
    simp only [fillC] at hf
    simp only [Instr.fill]
    cases hpl : place i with
    | none => rw [hpl] at hf; cases hf
    | some os =>
      obtain ⟨off, size⟩ := os
      rw [hpl] at hf
      simp only at hf
      split at hf
      · rename_i hsz
        have hvs : v.cells.size = size := by rw [h2]; exact hsz.1
        have has : arr.size = cs.length := by have := hr.1; rwa [Array.length_toList] at this
        have hcond : ¬ ((v.cells.size ≠ size || decide (off + v.cells.size > arr.size)) = true) := by
          simp only [hvs, ne_eq, not_true_eq_false, decide_false, Bool.false_or, decide_eq_true_eq]
          omega
        simp only
        rw [if_neg hcond]
        have hsp : off + pc.length ≤ cs.length := by rw [hsz.1]; exact hsz.2
        obtain ⟨g1, g2⟩ := foldl_set off v.cells.toList 0 arr
        have hz : ∀ (x : Array Value), x.zipIdx.foldl (fun (cs : Array Value) (x : Value × Nat) => cs.setIfInBounds (off + x.2) x.1) arr = (x.toList.zipIdx).foldl (fun (cs : Array Value) (x : Value × Nat) => cs.setIfInBounds (off + x.2) x.1) arr := by
          intro x
          rw [← Array.foldl_toList, Array.toList_zipIdx]
        refine fill_ok ps vs (splice cs off pc) _ cs' (by simpa using hl) (fun k p' v' hk hk' => hp (k + 1) p' v' hk hk') ?_ hf
        refine ⟨?_, fun j c hj => ?_⟩
        · rw [Array.length_toList, splice_length _ _ _ hsp]
          have := hz v.cells
          show (v.cells.zipIdx.foldl _ arr).size = _
          rw [this, g1, has]
        · have hget : (v.cells.zipIdx.foldl (fun (cs : Array Value) (x : Value × Nat) => cs.setIfInBounds (off + x.2) x.1) arr).toList[j]? = if off + 0 ≤ j ∧ j < off + 0 + v.cells.toList.length ∧ j < arr.size then v.cells.toList[j - (off + 0)]? else arr[j]? := by
            rw [Array.getElem?_toList, hz, g2]
          rw [splice_get _ _ _ hsp] at hj
          show ∃ y, (v.cells.zipIdx.foldl (fun (cs : Array Value) (x : Value × Nat) => cs.setIfInBounds (off + x.2) x.1) arr).toList[j]? = some y ∧ Q j c y
          rw [hget]
          split at hj
          · rename_i hin
            rw [if_pos ⟨by omega, by rw [Array.length_toList, hvs]; omega, by omega⟩]
            obtain ⟨y, hy, hq⟩ := h3 off size hpl (j - off) c hj
            refine ⟨y, hy, ?_⟩
            rwa [show off + (j - off) = j by omega] at hq
          · rename_i hin
            rw [if_neg (by rw [Array.length_toList, hvs]; omega)]
            obtain ⟨y, hy, hq⟩ := hr.2 j c hj
            exact ⟨y, by rw [← Array.getElem?_toList]; exact hy, hq⟩
      · cases hf

/-- what several slots have goes to places in one -/
def partT (d : Nat) (tab : List (Nat × (Nat × Bool))) (o' : Ow) : Tag → Tag
  | .at (.slot d' t') q => if d' = d then (match lookN t' tab with
      | some (off, true) => (match q with | [] => .at .ret [] | j :: q' => .at o' ((off + j) :: q'))
      | some (off, false) => .at o' (off :: q)
      | none => .at (.slot d' t') q) else .at (.slot d' t') q
  | x => x

theorem partT_ok {d : Nat} (tab : List (Nat × (Nat × Bool))) (o' : Ow) (hdp : o'.dep d ≤ d) : RenOK d (partT d tab o') where
  dp x p := by
    cases x with
    | cell k' => exact Nat.le_refl _
    | ret => exact Nat.le_refl _
    | slot d' t' =>
      simp only [partT]
      split
      · rename_i hc
        subst hc
        split
        · split
          · exact Nat.le_refl _
          · exact hdp
        · exact hdp
        · exact Nat.le_refl _
      · exact Nat.le_refl _
  box _ := rfl
  foreign := rfl
  at_ x p := by
    cases x with
    | cell k' => exact ⟨_, _, rfl⟩
    | ret => exact ⟨_, _, rfl⟩
    | slot d' t' =>
      simp only [partT]
      split
      · split
        · split <;> exact ⟨_, _, rfl⟩
        · exact ⟨_, _, rfl⟩
        · exact ⟨_, _, rfl⟩
      · exact ⟨_, _, rfl⟩
  keep x hx := by
    cases x with
    | foreign => rfl
    | box k => rfl
    | «at» o p =>
      cases o with
      | cell k' => rfl
      | ret => rfl
      | slot d' t' =>
        simp only [partT]
        rw [if_neg]
        rintro rfl
        exact hx (Nat.le_refl _)

theorem tmpsOf_nil : tmpsOf [] = [] := rfl
theorem tmpsOf_tmp (t : Nat) (xs : List Operand) : tmpsOf (.tmp t :: xs) = t :: tmpsOf xs := rfl
theorem tmpsOf_const (v : Value) (xs : List Operand) : tmpsOf (.const v :: xs) = tmpsOf xs := rfl
theorem tmpsOf_global (v : Nat) (xs : List Operand) : tmpsOf (.global v :: xs) = tmpsOf xs := rfl
theorem tmpsOf_func (v : Nat) (xs : List Operand) : tmpsOf (.func v :: xs) = tmpsOf xs := rfl

theorem foldl_kil_env (env : Nat → AV) : ∀ (ps : List (Nat × Operand)) (t : Nat), (ps.foldl (fun e p => kil e p.2) env) t = if t ∈ tmpsOf (ps.map (·.2)) then .dead else env t
  | [], t => by simp [tmpsOf_nil]
  | (i, x) :: ps, t => by
    simp only [List.foldl_cons, List.map_cons]
    rw [foldl_kil_env]
    cases x with
    | tmp u =>
      simp only [tmpsOf_tmp, List.mem_cons, kil, upd]
      by_cases h1 : t ∈ tmpsOf (ps.map (·.2))
      · rw [if_pos h1, if_pos (.inr h1)]
      · by_cases h2 : t = u
        · rw [if_neg h1, if_pos h2, if_pos (.inl h2)]
        · rw [if_neg h1, if_neg h2, if_neg (fun hh => hh.elim h2 h1)]
    | const v => rw [tmpsOf_const]; rfl
    | global v => rw [tmpsOf_global]; rfl
    | func v => rw [tmpsOf_func]; rfl

/-- the table of parts: which slot goes where -/
def tabOf (place : Nat → Option (Nat × Nat)) (env : Nat → AV) : List (Nat × Operand) → List (Nat × (Nat × Bool))
  | [] => []
  | (i, x) :: ps => match x, place i with
    | .tmp t, some (off, _) => (t, (off, isAgV (env t))) :: tabOf place env ps
    | _, _ => tabOf place env ps

theorem tab_none (place : Nat → Option (Nat × Nat)) (env : Nat → AV) : ∀ (ps : List (Nat × Operand)) (t : Nat), t ∉ tmpsOf (ps.map (·.2)) → lookN t (tabOf place env ps) = none
  | [], t, _ => rfl
  | (i, x) :: ps, t, h => by
    cases x with
    | tmp u =>
      simp only [List.map_cons, tmpsOf_tmp, List.mem_cons, not_or] at h
      simp only [tabOf]
      split
      · rename_i t' off s heq1 heq2
        cases heq1
        simp only [lookN, Ne.symm h.1, if_false]
        exact tab_none place env ps t h.2
      · exact tab_none place env ps t h.2
    | const v => exact tab_none place env ps t h
    | global v => exact tab_none place env ps t h
    | func v => exact tab_none place env ps t h

theorem tab_some (place : Nat → Option (Nat × Nat)) (env : Nat → AV) : ∀ (ps : List (Nat × Operand)) (j i t off s : Nat), nodup (tmpsOf (ps.map (·.2))) = true → ps[j]? = some (i, .tmp t) → place i = some (off, s) →
    lookN t (tabOf place env ps) = some (off, isAgV (env t))
  | [], j, i, t, off, s, _, h, _ => by simp at h
  | (i', x) :: ps, 0, i, t, off, s, _, h, hp => by
    simp only [List.getElem?_cons_zero, Option.some.injEq, Prod.mk.injEq] at h
    obtain ⟨rfl, rfl⟩ := h
    simp [tabOf, hp, lookN]
  | (i', x) :: ps, j + 1, i, t, off, s, hn, h, hp => by
    rw [List.getElem?_cons_succ] at h
    have ht : t ∈ tmpsOf (ps.map (·.2)) := by
      have := List.mem_of_getElem? h
      exact List.mem_filterMap.2 ⟨.tmp t, List.mem_map.2 ⟨_, this, rfl⟩, rfl⟩
    cases x with
    | tmp u =>
      simp only [List.map_cons, tmpsOf_tmp, nodup, Bool.and_eq_true, Bool.not_eq_true', List.contains_eq_mem, decide_eq_false_iff_not] at hn
      have hne : u ≠ t := fun e => hn.1 (e ▸ ht)
      have ih := tab_some place env ps j i t off s hn.2 h hp
      simp only [tabOf]
      split
      · rename_i t' off' s' heq1 heq2
        cases heq1
        simp only [lookN, hne, if_false]
        exact ih
      · exact ih
    | const v => exact tab_some place env ps j i t off s hn h hp
    | global v => exact tab_some place env ps j i t off s hn h hp
    | func v => exact tab_some place env ps j i t off s hn h hp

theorem RC_ofValue_any {o o' : Ow} {p p' : List Nat} {u y : Value} (h : RC w G o p (C.ofValue u) y) : RC w G o' p' (C.ofValue u) y := by
  unfold C.ofValue at h ⊢
  split
  · rename_i hs; rw [if_pos hs] at h; exact h
  · rename_i hs
    rw [if_neg hs] at h
    split
    · have hr' : RD w G _ .own _ (.sl 0 []) y := h
      show RD w G _ .own _ (.sl 0 []) y
      rw [RD] at hr' ⊢
      rcases hr' with hr' | ⟨h1, _⟩
      · exact .inl hr'
      · exact absurd rfl h1
    · exact trivial

theorem ofValue_cells {v : Value} {cs : List C} (h : (AV.ofValue v).cells = some cs) {j : Nat} {c : C} (hj : cs[j]? = some c) : ∃ u, c = C.ofValue u := by
  unfold AV.ofValue at h
  split at h
  · simp only [AV.cells, Option.some.injEq] at h
    subst h
    rw [List.getElem?_map] at hj
    cases hq : (Array.toList _)[j]? with
    | none => rw [hq] at hj; cases hj
    | some u => rw [hq] at hj; cases hj; exact ⟨u, rfl⟩
  · have hd : cs = [C.ofValue v] := by
      revert h
      cases C.ofValue v <;> simp [AV.cells] <;> intro h <;> exact h.symm
    subst hd
    cases j with
    | zero => cases hj; exact ⟨v, rfl⟩
    | succ j => simp at hj

/-- operands taken, and laid side by side -/
theorem sim_parts (h : Sim d N G σ a.tmps w) (place : Nat → Option (Nat × Nat)) (parts : List (Nat × Operand)) (hn : nodup (tmpsOf (parts.map (·.2))) = true) {ps : List (Nat × List C)}
    (hps : (parts.mapM fun p => (opnd σ.env p.2).cells.map fun cs => (p.1, cs)) = some ps) (t' : Nat) {base : List C} {vals : Array Value} (hb : ∀ G', Rel (fun j c v => RC w G' (.slot d t') [j] c v) base vals.toList)
    {cs : List C} (hf : fillC place base ps = some cs) :
    ∃ G', Sim d N G' { σ with env := parts.foldl (fun e p => kil e p.2) σ.env } a.tmps w ∧ Frm d G w G' w ∧ ∃ arr, Instr.fill place vals (parts.map fun p => (p.1, a.eval p.2)) = some arr ∧
      Rel (fun j c v => RC w G' (.slot d t') [j] c v) cs arr.toList := by
  have hφ := partT_ok (d := d) (tabOf place σ.env parts) (.slot d t') (Nat.le_refl d)
  refine ⟨Ev.ren G (partT d (tabOf place σ.env parts) (.slot d t')), h.ren hφ _ _ (fun t2 => ?_) (Sim.memSame _ fun k q => rfl) ?_, hφ.frm G w, ?_⟩
  · rw [foldl_kil_env]
    by_cases ht : t2 ∈ tmpsOf (parts.map (·.2))
    · left; rw [if_pos ht]
    · right
      refine ⟨by rw [if_neg ht], fun q => ?_⟩
      simp only [partT, if_true]
      rw [tab_none place σ.env parts t2 ht]
  · intro o p k q hq
    left
    cases o with
    | cell k3 => simp only [partT, Tag.at.injEq, Ow.cell.injEq] at hq; exact ⟨k3, rfl, hq.1⟩
    | ret => simp [partT] at hq
    | slot d' t2 =>
      simp only [partT] at hq
      split at hq
      · split at hq
        · split at hq <;> simp at hq
        · simp at hq
        · simp at hq
      · simp at hq
  · have hlen : ps.length = parts.length := by
      clear hf hφ
      induction parts generalizing ps with
      | nil => simp at hps; subst hps; rfl
      | cons p parts ih =>
        have hn' : nodup (tmpsOf (parts.map (·.2))) = true := by
          obtain ⟨pi, px⟩ := p
          cases px with
          | tmp u => simp only [List.map_cons, tmpsOf_tmp, nodup, Bool.and_eq_true] at hn; exact hn.2
          | const v => exact hn
          | global v => exact hn
          | func v => exact hn
        rw [List.mapM_cons] at hps
        cases hc : (opnd σ.env p.2).cells with
        | none => rw [hc] at hps; simp at hps
        | some cs0 =>
          rw [hc] at hps
          simp only [Option.map_some, bind, pure, Option.bind] at hps
          split at hps
          · cases hps
          · rename_i ps0 hps0
            cases hps
            have := ih hn' hps0
            simp [this]
    have hget : ∀ (i : Nat) p, parts[i]? = some p → ∃ cs0, (opnd σ.env p.2).cells = some cs0 ∧ ps[i]? = some (p.1, cs0) := by
      clear hf hlen hn
      clear hφ
      induction parts generalizing ps with
      | nil => intro i p hp; simp at hp
      | cons p0 parts ih =>
        rw [List.mapM_cons] at hps
        cases hc : (opnd σ.env p0.2).cells with
        | none => rw [hc] at hps; simp at hps
        | some cs0 =>
          rw [hc] at hps
          simp only [Option.map_some, bind, pure, Option.bind] at hps
          split at hps
          · cases hps
          · rename_i ps0 hps0
            cases hps
            intro i p hp
            cases i with
            | zero => cases hp; exact ⟨cs0, hc, rfl⟩
            | succ i => exact ih hps0 i p hp
    refine fill_ok ps _ base vals cs (by rw [hlen, List.length_map]) (fun i p v hp hv => ?_) (hb _) hf
    rw [List.getElem?_map] at hv
    cases hpi : parts[i]? with
    | none => rw [hpi] at hv; cases hv
    | some p0 =>
      rw [hpi] at hv
      cases hv
      obtain ⟨cs0, hc0, hps0⟩ := hget i p0 hpi
      rw [hps0] at hp
      cases hp
      have hra := RA_cells hc0 (h.opnd p0.2)
      refine ⟨rfl, hra.1, fun off size hpl j c hj => ?_⟩
      obtain ⟨y, hy, hr⟩ := hra.2 j c hj
      refine ⟨y, hy, ?_⟩
      cases hx : p0.2 with
      | tmp t =>
        rw [hx] at hr hc0
        have htab := tab_some place σ.env parts i p0.1 t off size hn (by rw [hpi]; congr 1; exact Prod.ext rfl hx) hpl
        refine (hφ.hands G w (o := .slot d t) (o' := .slot d t') (p := if isAgV (σ.env t) then [j] else []) (p' := [off + j]) fun q => ?_).rc0 hr
        simp only [partT, if_true, htab]
        cases hag : isAgV (σ.env t) with
        | true => simp
        | false =>
          have hj0 : j = 0 := by
            have hl : cs0.length = 1 := by
              have hc' : (σ.env t).cells = some cs0 := hc0
              cases hxx : σ.env t with
              | one c0 => rw [hxx] at hc'; cases c0 <;> simp [AV.cells] at hc' <;> (rw [← hc']; rfl)
              | ag l => rw [hxx] at hag; simp [isAgV] at hag
              | tu l => rw [hxx] at hc'; simp [AV.cells] at hc'
            rcases Nat.lt_or_ge j cs0.length with hlt | hge
            · omega
            · rw [List.getElem?_eq_none hge] at hj; cases hj
          subst hj0
          simp
      | const v =>
        rw [hx] at hr hc0
        obtain ⟨u, rfl⟩ := ofValue_cells hc0 hj
        have hrc : RC w G (.slot d t') [off + j] (C.ofValue u) y := RC_ofValue_any hr
        exact RC_ofValue_any ((hφ.hands G w (o := .ret) (o' := .ret) (p := []) (p' := []) fun q => rfl).rc0 (RC_ofValue_any hrc))
      | global v => rw [hx] at hc0; simp [opnd, AV.cells] at hc0
      | func k =>
        rw [hx] at hc0
        simp only [opnd, AV.cells, Option.some.injEq] at hc0
        subst hc0
        rw [hx] at hr
        cases j with
        | zero =>
          cases hj
          obtain ⟨h1, vs, h2, h3⟩ := hr
          exact ⟨fun c hc => (List.not_mem_nil hc).elim, vs, h2, h3⟩
        | succ j => simp at hj

end
end Go.Ev
