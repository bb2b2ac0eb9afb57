import Derived.Test.YtahcfnjgllpkdaaEvOps1
set_option linter.unusedSimpArgs false
set_option linter.unusedVariables false
set_option linter.unnecessarySimpa false
namespace Go.Ev
section
variable {g : Cfg} {d N : Nat} {G : Gh} {σ : St} {w : World} {a : Act} {dst : Option Nat} {ty : TypeId} {pos : String} {after : Array Edge} {guard : Option (Nat × Bool)}

theorem RC_ofD {o : Ow} {p : List Nat} {m : Md} {x : D} {v : Value} (h : RD w G o m p x v) : RC w G o p (C.ofD m x) v := by
  cases x with
  | sc u => rw [RD] at h; exact h
  | sl n cs => exact h

/-- the values of a row of data -/
theorem RDs_vals {o : Ow} {m : Md} {p : List Nat} {b off : Nat} : ∀ {cs : List D} {i : Nat}, RDs w G o m p b off i cs →
    ∃ vs : List Value, vs.length = cs.length ∧ (∀ j v, vs[j]? = some v → w.cell? ⟨b, off + (i + j), none⟩ = some v) ∧ RCs w G o p i (cs.map (C.ofD m)) vs
  | [], i, _ => ⟨[], rfl, fun j v hv => by simp at hv, rfl, fun j c hc => by simp at hc⟩
  | x :: cs, i, h => by
    rw [RDs] at h
    obtain ⟨⟨v, hv, hr⟩, hs⟩ := h
    obtain ⟨vs, h1, h2, h3, h4⟩ := RDs_vals hs
    refine ⟨v :: vs, by simp [h1], fun j u hu => ?_, by simp [h1], fun j c hc => ?_⟩
    · cases j with
      | zero => cases hu; exact hv
      | succ j => have := h2 j u hu; rw [show i + (j + 1) = i + 1 + j by omega]; exact this
    · cases j with
      | zero => cases hc; exact ⟨v, rfl, RC_ofD hr⟩
      | succ j =>
        obtain ⟨x', hx', hr'⟩ := h4 j c hc
        exact ⟨x', hx', by rw [show i + (j + 1) = i + 1 + j by omega]; exact hr'⟩

theorem RC_own_any {o o' : Ow} {p p' : List Nat} {c : C} {v : Value} (hc : c.copy = c) (h : RC w G o p c v) : RC w G o' p' c v := by
  have := RC_copy (o' := o') (p' := p') h
  rwa [hc] at this

theorem ofD_copy {m : Md} (hm : m.isOwn = false) (x : D) : (C.ofD m x).copy = C.ofD m x := by
  cases x with
  | sc v => rfl
  | sl n cs => cases m <;> first | rfl | simp [Md.isOwn] at hm

theorem RCs_copy_eq {o o' : Ow} {p p' : List Nat} {i i' : Nat} {cs : List C} {vs : List Value} (hc : cs.map C.copy = cs) (h : RCs w G o p i cs vs) : RCs w G o' p' i' cs vs := by
  have := RCs_copy (o' := o') (p' := p') (i' := i') h
  rwa [hc] at this

theorem seg_map {α β : Type} {f : α → β} {cs sg : List α} {off size : Nat} (h : seg cs off size = some sg) : seg (cs.map f) off size = some (sg.map f) := by
  unfold seg at h ⊢
  split at h
  · rename_i hle
    cases h
    rw [if_pos (by rw [List.length_map]; exact hle), List.map_take, List.map_drop]
  · cases h

theorem ok_loadEp (h : Sim d N G σ a.tmps w) (hd : dst.all (· < N) = true) (t : TypeId) (x : Operand) {i : TI} (hi : ti g.P t = some i) {m : Md} {cs : List D} {ps : Nat} (hx : opnd σ.env x = .one (.ep m cs ps))
    {sg : List D} (hs : seg cs ps i.size = some sg) {v : AV} (hv : mkAV i.agg (sg.map (C.ofD m)) = some v) :
    OpOK g.P d N G w a { dst, op := .load t x, type := ty, pos, after, guard } σ v := by
  have hxv := h.opnd x
  rw [hx] at hxv
  obtain ⟨hm, h1, b, off, hxv, hk, hu, hr⟩ := hxv
  obtain ⟨vs, hl, hcell, hrc⟩ := RDs_vals hr
  obtain ⟨hle, hsl, _⟩ := seg_get hs
  have hseg := RCs_seg hrc (seg_map (f := C.ofD m) hs)
  have hlen : ((vs.drop ps).take i.size).length = i.size := by rw [hseg.1, List.length_map, hsl]
  have hcp : (sg.map (C.ofD m)).map C.copy = sg.map (C.ofD m) := by
    rw [List.map_map]; exact List.map_congr_left fun x _ => ofD_copy hm x
  have hrun := run_loadVar_cells (w := w) hi b (off + ps) _ hlen (fun j u hu => by
      rw [List.getElem?_take] at hu
      split at hu
      · rw [List.getElem?_drop] at hu
        have := hcell (ps + j) u hu
        rw [Nat.zero_add, ← Nat.add_assoc] at this
        exact this
      · cases hu) (fun hag => by have := mkAV_len hv hag; rwa [List.length_map, hsl] at this)
  refine OpOK.mk (r := _) hd (by simp only [execOp, hxv]; simp only [Sem.run_bind, hrun, Result.andThen_ok]; rfl) (Frm.refl _ _ _) h fun t' _ => ?_
  refine (mkAV_ok hv (vs := (vs.drop ps).take i.size) (fun _ => RCs_copy_eq hcp hseg) (fun _ c hcs => ?_)).1
  have h2 := RCs_copy_eq (o' := Ow.slot d t') (p' := []) (i' := 0) hcp hseg
  rw [hcs] at h2
  obtain ⟨y, hy, hr⟩ := RCs_one h2
  refine ⟨y, hy, ?_⟩
  have hc1 : c.copy = c := by rw [hcs] at hcp; simpa using hcp
  exact RC_own_any hc1 hr

/-! a box's cells taken -/
/-- the tags of cells [off, off+size) of a box go to a slot -/
def cellT (k : Key) (off size : Nat) (o' : Ow) (agg : Bool) : Tag → Tag
  | .at (.cell k') (i :: q) => if k' = k ∧ off ≤ i ∧ i < off + size then .at o' (if agg then (i - off) :: q else q) else .at (.cell k') (i :: q)
  | t => t

theorem cellT_ok {d : Nat} (k : Key) (off size : Nat) (o' : Ow) (agg : Bool) (hdp : o'.dep d ≤ k.1) : RenOK d (cellT k off size o' agg) where
  dp x p := by
    cases x with
    | cell k' =>
      cases p with
      | nil => exact Nat.le_refl _
      | cons i q =>
        simp only [cellT]
        split
        · rename_i hc; rw [hc.1]; exact hdp
        · exact Nat.le_refl _
    | slot a b => exact Nat.le_refl _
    | ret => exact Nat.le_refl _
  box _ := rfl
  foreign := rfl
  at_ x p := by
    cases x with
    | cell k' =>
      cases p with
      | nil => exact ⟨_, _, rfl⟩
      | cons i q =>
        by_cases hc : k' = k ∧ off ≤ i ∧ i < off + size
        · exact ⟨o', _, by simp only [cellT]; rw [if_pos hc]⟩
        · exact ⟨.cell k', i :: q, by simp only [cellT]; rw [if_neg hc]⟩
    | slot a b => exact ⟨_, _, rfl⟩
    | ret => exact ⟨_, _, rfl⟩
  keep t ht := by
    cases t with
    | foreign => rfl
    | box k => rfl
    | «at» x p =>
      cases x with
      | cell k' => exact absurd trivial ht
      | slot a b => rfl
      | ret => rfl

theorem splice_get {α : Type} (l : List α) (off : Nat) (new : List α) (h : off + new.length ≤ l.length) (j : Nat) :
    (splice l off new)[j]? = if off ≤ j ∧ j < off + new.length then new[j - off]? else l[j]? := by
  unfold splice
  rw [List.append_assoc, List.getElem?_append]
  simp only [List.length_take]
  rw [Nat.min_eq_left (by omega)]
  split
  · rename_i hlt
    rw [if_neg (by omega), List.getElem?_take, if_pos hlt]
  · rename_i hge
    rw [List.getElem?_append]
    split
    · rename_i h2
      rw [if_pos (by omega)]
    · rename_i h2
      rw [if_neg (by omega), List.getElem?_drop]
      congr 1
      omega

theorem splice_length {α : Type} (l : List α) (off : Nat) (new : List α) (h : off + new.length ≤ l.length) : (splice l off new).length = l.length := by
  unfold splice
  simp only [List.length_append, List.length_take, List.length_drop]
  omega

theorem ok_loadTake (h : Sim d N G σ a.tmps w) (hd : dst.all (· < N) = true) (t : TypeId) (x : Operand) {i : TI} (hi : ti g.P t = some i) {k : Key} {off : Nat} (hx : opnd σ.env x = .one (.ptr k off))
    {cs sg : List C} (hm : σ.mem k = some cs) (hkd : k.1 = d) (hs : seg cs off i.size = some sg) {v : AV} (hv : mkAV i.agg sg = some v) :
    OpOK g.P d N G w a { dst, op := .load t x, type := ty, pos, after, guard } { σ with mem := upd σ.mem k (some (splice cs off (sg.map fun _ => C.dead))) } v := by
  have hxv := h.opnd x
  rw [hx] at hxv
  obtain ⟨hl, hxv⟩ := hxv
  obtain ⟨hle, hsl, hsg⟩ := seg_get hs
  obtain ⟨us, hlen, hcl, hseg⟩ := h.vals hm hs
  have dslot : ∀ t', (Ow.slot d t').dep d ≤ k.1 := fun t' => by rw [hkd]; exact Nat.le_refl _
  have dret : Ow.ret.dep d ≤ k.1 := by rw [hkd]; exact Nat.le_refl _
  have hrun := run_loadVar_cells (w := w) hi (G.β k) off _ hlen hcl (fun hag => by rw [← hsl]; exact mkAV_len hv hag)
  have hlm : off + (sg.map fun _ => C.dead).length ≤ cs.length := by rw [List.length_map, hsl]; exact hle
  -- the account behind it
  have key : ∀ o', o'.dep d ≤ k.1 → Sim d N (Ev.ren G (cellT k off i.size o' i.agg)) { σ with mem := upd σ.mem k (some (splice cs off (sg.map fun _ => C.dead))) } a.tmps w ∨ ∃ k', o' = .cell k' := by
    intro o' hdp
    cases o' with
    | cell k' => exact .inr ⟨k', rfl⟩
    | slot d' t' =>
      left
      refine h.ren (cellT_ok k off i.size _ i.agg hdp) _ _ (fun t2 => .inr ⟨rfl, fun q => rfl⟩) (fun k2 => ?_) ?_
      · by_cases hk : k2 = k
        · subst hk
          refine .inr ⟨cs, _, hm, by simp [upd], splice_length _ _ _ hlm, fun j c' hj => ?_⟩
          rw [splice_get _ _ _ hlm] at hj
          split at hj
          · rw [List.getElem?_map] at hj
            cases hq : sg[j - off]? with
            | none => rw [hq] at hj; cases hj
            | some c0 => rw [hq] at hj; cases hj; exact .inl rfl
          · rename_i hne
            rw [List.length_map, hsl] at hne
            refine .inr ⟨hj, fun q => ?_⟩
            simp only [cellT]
            rw [if_neg (fun hh => hne hh.2)]
        · cases hm2 : σ.mem k2 with
          | none => exact .inl ⟨by simp [upd, hk, hm2], rfl⟩
          | some cs2 => exact .inr ⟨cs2, cs2, rfl, by simp [upd, hk, hm2], rfl, fun j c' hj => .inr ⟨hj, fun q => by simp [cellT, hk]⟩⟩
      · intro o p k2 q hq
        cases o with
        | cell k3 =>
          left
          cases p with
          | nil => simp only [cellT, Tag.at.injEq, Ow.cell.injEq] at hq; exact ⟨k3, rfl, hq.1⟩
          | cons j q' =>
            simp only [cellT] at hq
            split at hq
            · cases hq
            · simp only [Tag.at.injEq, Ow.cell.injEq] at hq; exact ⟨k3, rfl, hq.1⟩
        | slot a b => simp [cellT] at hq
        | ret => simp [cellT] at hq
    | ret =>
      left
      refine h.ren (cellT_ok k off i.size _ i.agg hdp) _ _ (fun t2 => .inr ⟨rfl, fun q => rfl⟩) (fun k2 => ?_) ?_
      · by_cases hk : k2 = k
        · subst hk
          refine .inr ⟨cs, _, hm, by simp [upd], splice_length _ _ _ hlm, fun j c' hj => ?_⟩
          rw [splice_get _ _ _ hlm] at hj
          split at hj
          · rw [List.getElem?_map] at hj
            cases hq : sg[j - off]? with
            | none => rw [hq] at hj; cases hj
            | some c0 => rw [hq] at hj; cases hj; exact .inl rfl
          · rename_i hne
            rw [List.length_map, hsl] at hne
            refine .inr ⟨hj, fun q => ?_⟩
            simp only [cellT]
            rw [if_neg (fun hh => hne hh.2)]
        · cases hm2 : σ.mem k2 with
          | none => exact .inl ⟨by simp [upd, hk, hm2], rfl⟩
          | some cs2 => exact .inr ⟨cs2, cs2, rfl, by simp [upd, hk, hm2], rfl, fun j c' hj => .inr ⟨hj, fun q => by simp [cellT, hk]⟩⟩
      · intro o p k2 q hq
        cases o with
        | cell k3 =>
          left
          cases p with
          | nil => simp only [cellT, Tag.at.injEq, Ow.cell.injEq] at hq; exact ⟨k3, rfl, hq.1⟩
          | cons j q' =>
            simp only [cellT] at hq
            split at hq
            · cases hq
            · simp only [Tag.at.injEq, Ow.cell.injEq] at hq; exact ⟨k3, rfl, hq.1⟩
        | slot a b => simp [cellT] at hq
        | ret => simp [cellT] at hq
  have hrun' : (execOp a.eval { dst, op := .load t x, type := ty, pos, after, guard }).run g.P w = .ok (.value (if i.agg then .agg us.toArray else us[0]?.getD undef)) w := by
    simp only [execOp, hxv]; simp only [Sem.run_bind, hrun, Result.andThen_ok]; rfl
  have hval : ∀ o', o'.dep d ≤ k.1 → RA w (Ev.ren G (cellT k off i.size o' i.agg)) o' v (if i.agg then .agg us.toArray else us[0]?.getD undef) := by
    intro o' hdp
    refine (mkAV_ok hv (vs := us) (fun hag => ⟨hseg.1, fun j c hj => ?_⟩) (fun hag c hcs => ?_)).1
    · obtain ⟨y, hy, hr⟩ := hseg.2 j c hj
      refine ⟨y, hy, ((cellT_ok (d := d) k off i.size o' i.agg hdp).hands G w (o := .cell k) (o' := o') (p := [] ++ [0 + off + j]) (p' := [] ++ [0 + j]) fun q => ?_).rc0 hr⟩
      have hjs : j < i.size := by
        rcases Nat.lt_or_ge j i.size with hlt | hge
        · exact hlt
        · rw [List.getElem?_eq_none (by omega)] at hj; cases hj
      simp only [List.nil_append, List.cons_append, cellT, hag, Nat.zero_add]
      rw [if_pos ⟨trivial, by omega, by omega⟩]
      simp
    · subst hcs
      obtain ⟨y, hy, hr⟩ := RCs_one hseg
      refine ⟨y, hy, ((cellT_ok (d := d) k off i.size o' i.agg hdp).hands G w (o := .cell k) (o' := o') (p := [] ++ [0 + off]) (p' := []) fun q => ?_).rc0 hr⟩
      have h1 : i.size = 1 := by rw [← hsl]; rfl
      simp only [List.nil_append, List.cons_append, cellT, hag, Nat.zero_add]
      rw [if_pos ⟨trivial, by omega, by omega⟩]
      simp
  cases dst with
  | none =>
    have hS := (key .ret dret).resolve_right (by rintro ⟨k', hk'⟩; cases hk')
    exact OpOK.mk hd hrun' ((cellT_ok k off i.size _ i.agg dret).frm G w) hS fun _ ht => by cases ht
  | some t' =>
    have hS := (key (.slot d t') (dslot t')).resolve_right (by rintro ⟨k', hk'⟩; cases hk')
    exact OpOK.mk hd hrun' ((cellT_ok k off i.size _ i.agg (dslot t')).frm G w) hS fun _ ht => by cases ht; exact hval _ (dslot t')

end
end Go.Ev
