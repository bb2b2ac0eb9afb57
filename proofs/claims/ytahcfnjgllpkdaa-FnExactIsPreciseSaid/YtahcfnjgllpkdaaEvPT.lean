import Derived.Test.YtahcfnjgllpkdaaEvPS
set_option linter.unusedSimpArgs false
set_option linter.unusedVariables false
set_option linter.unnecessarySimpa false
namespace Go.Ev
/-! the search of an embedding -/
def ontoB (t : TStructure) (to : List Int) : Bool := (List.range t.nodes.length).all fun j : Nat => decide ((j : Int) ∈ to)
def rngT (t : TStructure) (to : List Int) : Prop := ∀ x ∈ to, 0 ≤ x ∧ x < (t.nodes.length : Int)
def prefFit (s t : TStructure) (to : List Int) : Bool := (List.range to.length).all fun i => fitB s t (to.take (i + 1))
def rngB (t : TStructure) (to : List Int) : Bool := to.all fun x => decide (0 ≤ x ∧ x < (t.nodes.length : Int))
theorem impl_onto (t : TStructure) (to : List Int) (ht : small t.nodes.length) (hl : small to.length) : impl_isOnto t to = some (ontoB t to) := by
  unfold small at ht
  unfold impl_isOnto
  refine Tot.eq (Tot.bind (P := (· = if ontoB t to then .inr () else .inl ())) (Tot.all t.nodes.length (fun j : Nat => decide ((j : Int) ∈ to)) () () (fun i hi => ?_) ?_ rfl) fun r hr => ?_)
  · simp only [ltI, cond_dec, contains_int to _ hl, Option.bind_some]
    rw [if_pos (by omega), addI_eq (by omega) (by omega)]
    by_cases h : (i : Int) ∈ to
    · rw [if_pos h, if_pos (by simpa using h)]; exact Tot.ret rfl
    · rw [if_neg h, if_neg (by simpa using h)]; exact Tot.ret rfl
  · simp only [ltI, cond_dec]
    rw [if_neg (by omega)]
    exact Tot.ret rfl
  · subst hr
    cases ontoB t to <;> exact Tot.ret rfl
theorem slc_take (to : List Int) (i : Nat) (hi : i < to.length) (hl : small to.length) : slc to 0 (addI (i : Int) 1) = some (to.take (i + 1)) := by
  unfold small at hl
  rw [addI_eq (by omega) (by omega)]
  unfold slc
  rw [if_pos (by omega)]
  congr 1
theorem ne_take {to : List Int} {i : Nat} (hi : i < to.length) : to.take (i + 1) ≠ [] := by
  intro h
  have : (to.take (i + 1)).length = 0 := by rw [h]; rfl
  rw [List.length_take] at this
  omega
/-- all places up to the first that lies outside fit -/
def upB (s t : TStructure) (to : List Int) (i : Nat) : Bool := decide (0 ≤ to.getD i 0 ∧ to.getD i 0 ≤ (t.nodes.length : Int) - 1) && fitB s t (to.take (i + 1))
def embB (s t : TStructure) (to : List Int) : Bool := decide (to.length = s.nodes.length) && ((List.range to.length).all (upB s t to) && ontoB t to)
theorem spec_isEmbedding (s t : TStructure) (to : List Int) (hs : okS s) (ht : small t.nodes.length) (hto : small to.length) : spec_IsEmbedding s t to = some (embB s t to) := by
  unfold spec_IsEmbedding embB
  have hs1 := hs.1
  have ht' := ht
  have hto' := hto
  unfold small at hs1 ht' hto'
  simp only [neI, cond_ndec]
  by_cases hl : to.length = s.nodes.length
  · rw [if_pos (by omega), decide_eq_true hl, Bool.true_and]
    have key : Tot (iter (ρ := (Unit) ⊕ (Unit)) (fun s_2 : Int =>
        cond (ltI s_2 (to.length : Int))
          ((at? to s_2).bind fun e_15 =>
            (spec_l1In e_15 0 (subI (t.nodes.length : Int) 1)).bind fun y_20 =>
              cond y_20
                ((slc to 0 (addI s_2 1)).bind fun z_24 =>
                  (spec_l16Fits s t z_24).bind fun y_31 =>
                    cond y_31
                      (some (.inl (addI s_2 1)))
                      (some (.inr (.inl ()))))
                (some (.inr (.inl ()))))
          (some (.inr (.inr ())))) 0) (fun r => (r = .inr () ∧ (List.range to.length).all (upB s t to) = true) ∨ (r = .inl () ∧ (List.range to.length).all (upB s t to) = false)) := by
      refine Tot.loop (fun i q => q = (i : Int) ∧ ∀ j, j < i → upB s t to j = true) to.length ⟨rfl, fun j hj => absurd hj (Nat.not_lt_zero _)⟩ fun i q hI hi => ?_
      obtain ⟨rfl, hI⟩ := hI
      simp only [ltI, cond_dec]
      by_cases hlt : i < to.length
      · rw [if_pos (by omega)]
        simp only [getD_at hlt 0, Option.bind_some, l1In_eq, subI_eq (a := (t.nodes.length : Int)) (b := 1) (by omega) (by omega), cond_dec]
        have hno : upB s t to i = false → (List.range to.length).all (upB s t to) = false := fun hu => List.all_eq_false.2 ⟨i, List.mem_range.2 hlt, by simp [hu]⟩
        by_cases hr : 0 ≤ to.getD i 0 ∧ to.getD i 0 ≤ (t.nodes.length : Int) - 1
        · rw [if_pos hr, slc_take to i hlt hto, Option.bind_some]
          have hall : ∀ x ∈ to.take (i + 1), 0 ≤ x ∧ x < (t.nodes.length : Int) := by
            intro x hx
            obtain ⟨j, hj, rfl⟩ := List.mem_iff_getElem.1 hx
            simp only [List.length_take] at hj
            rw [List.getElem_take]
            by_cases hji : j = i
            · subst hji
              have : to.getD j 0 = to[j] := by simp [List.getD, hlt]
              omega
            · have hu := hI j (by omega)
              have : to.getD j 0 = to[j]'(by omega) := by simp [List.getD, show j < to.length by omega]
              simp only [upB, Bool.and_eq_true, decide_eq_true_eq] at hu
              omega
          rw [spec_fits s t _ hs ht (ne_take hlt) (by simp; omega) hall, Option.bind_some, addI_eq (by omega) (by omega)]
          have hu : upB s t to i = fitB s t (to.take (i + 1)) := by unfold upB; rw [decide_eq_true hr, Bool.true_and]
          cases hf : fitB s t (to.take (i + 1)) with
          | true =>
            refine Tot.ret ⟨hlt, by simp, fun j hj => ?_⟩
            by_cases hji : j = i
            · subst hji; rw [hu, hf]
            · exact hI j (by omega)
          | false => exact Tot.ret (.inr ⟨rfl, hno (hu.trans hf)⟩)
        · rw [if_neg hr]
          refine Tot.ret (.inr ⟨rfl, hno ?_⟩)
          unfold upB
          rw [decide_eq_false hr, Bool.false_and]
      · rw [if_neg (by omega)]
        refine Tot.ret (.inl ⟨rfl, List.all_eq_true.2 fun j hj => hI j (by have := List.mem_range.1 hj; omega)⟩)
    obtain ⟨r, hr, h⟩ := key
    rw [hr, Option.bind_some]
    rcases h with ⟨rfl, h⟩ | ⟨rfl, h⟩
    · rw [h, Bool.true_and]
      simp only [Sum.elim_inr]
      refine Tot.eq (Tot.bind (P := (· = if ontoB t to then .inr () else .inl false)) (Tot.all t.nodes.length (fun j : Nat => decide ((j : Int) ∈ to)) false () (fun i hi => ?_) ?_ rfl) fun r hr => ?_)
      · simp only [ltI, cond_dec, l7Has to _ hto, Option.bind_some]
        rw [if_pos (by omega), addI_eq (by omega) (by omega)]
        by_cases h : (i : Int) ∈ to
        · rw [if_pos h, if_pos (by simpa using h)]; exact Tot.ret rfl
        · rw [if_neg h, if_neg (by simpa using h)]; exact Tot.ret rfl
      · simp only [ltI, cond_dec]
        rw [if_neg (by omega)]
        exact Tot.ret rfl
      · subst hr
        cases ontoB t to <;> exact Tot.ret rfl
    · rw [h]; rfl
  · rw [if_neg (by omega), decide_eq_false hl]
    rfl

def pre (s t : TStructure) (to : List Int) : Prop := to.length ≤ s.nodes.length ∧ rngT t to ∧ ∀ i, i < to.length → fitB s t (to.take (i + 1)) = true
theorem pre_emb {s t : TStructure} {to : List Int} (h : pre s t to) (hl : to.length = s.nodes.length) : embB s t to = ontoB t to := by
  unfold embB
  rw [decide_eq_true hl, Bool.true_and]
  have : (List.range to.length).all (upB s t to) = true := List.all_eq_true.2 fun i hi => by
    have hi := List.mem_range.1 hi
    unfold upB
    have hg : to.getD i 0 = to[i] := by simp [List.getD, hi]
    have := h.2.1 _ (List.getElem_mem hi)
    rw [h.2.2 i hi, decide_eq_true (by omega), Bool.true_and]
  rw [this, Bool.true_and]
theorem pre_push {s t : TStructure} {to : List Int} (h : pre s t to) {j : Nat} (hj : j < t.nodes.length) (hl : to.length < s.nodes.length) (hf : fitB s t (to ++ [(j : Int)]) = true) : pre s t (to ++ [(j : Int)]) := by
  refine ⟨by simp; omega, fun x hx => ?_, fun i hi => ?_⟩
  · rcases List.mem_append.1 hx with hx | hx
    · exact h.2.1 x hx
    · simp at hx; omega
  · simp only [List.length_append, List.length_singleton] at hi
    by_cases he : i = to.length
    · subst he
      rw [List.take_of_length_le (by simp)]
      exact hf
    · rw [List.take_append_of_le_length (by omega)]
      exact h.2.2 i (by omega)
def tryJ (s t : TStructure) (F : List Int → List Int × Bool) (to : List Int) (j : Nat) : Option (List Int × Bool) :=
  if fitB s t (to ++ [(j : Int)]) then (if (F (to ++ [(j : Int)])).2 then some ((F (to ++ [(j : Int)])).1, true) else none) else none
def findF (s t : TStructure) : Nat → List Int → List Int × Bool
  | 0, to => (to, ontoB t to)
  | k + 1, to => (match (List.range t.nodes.length).findSome? (tryJ s t (findF s t k) to) with | some r => r | none => ([], false))
theorem findF_len (s t : TStructure) : ∀ (k : Nat) (to : List Int), (findF s t k to).1.length ≤ to.length + k
  | 0, to => Nat.le_refl _
  | k + 1, to => by
    unfold findF
    split
    · rename_i r hr
      obtain ⟨j, _, hj⟩ := List.exists_of_findSome?_eq_some hr
      unfold tryJ at hj
      split at hj
      · split at hj
        · cases hj
          have := findF_len s t k (to ++ [(j : Int)])
          simp only [List.length_append, List.length_singleton] at this
          simp only
          omega
        · cases hj
      · cases hj
    · simp
theorem spec_find (s t : TStructure) (hs : okS s) (ht : small t.nodes.length) : ∀ (k : Nat) (to : List Int), to.length + k = s.nodes.length → pre s t to → fixN R_spec_l16Find (k + 1) (s, t, to, ()) = some (findF s t k to)
  | 0, to, hk, hp => by
    rw [show fixN R_spec_l16Find (0 + 1) (s, t, to, ()) = B_spec_l16Find (fun a b c => fixN R_spec_l16Find 0 (a, b, c, ())) s t to from rfl]
    have hs1 := hs.1
    unfold B_spec_l16Find
    simp only [eqI, cond_dec]
    rw [if_pos (by omega), spec_isEmbedding s t to hs ht (by unfold small at *; omega), Option.bind_some, pre_emb hp (by omega)]
    rfl
  | k + 1, to, hk, hp => by
    rw [show fixN R_spec_l16Find (k + 1 + 1) (s, t, to, ()) = B_spec_l16Find (fun a b c => fixN R_spec_l16Find (k + 1) (a, b, c, ())) s t to from rfl]
    have hs1 := hs.1
    have ht' := ht
    unfold small at hs1 ht'
    unfold B_spec_l16Find
    simp only [eqI, cond_dec]
    rw [if_neg (by omega)]
    refine Tot.eq (Tot.bind (P := (· = firstR ((List.range t.nodes.length).findSome? (tryJ s t (findF s t k) to)) ())) (Tot.first t.nodes.length (tryJ s t (findF s t k) to) () (fun i hi => ?_) ?_ rfl) fun r hr => ?_)
    · simp only [ltI, cond_dec, List.length_nil, Nat.zero_add, List.length_singleton]
      rw [if_pos (by omega), room_small (by omega) (by omega), Option.bind_some, room_small (by omega) (by omega), Option.bind_some, addI_eq (by omega) (by omega),
        spec_fits s t _ hs ht (by simp) (by simp; omega) (fun x hx => by
          rcases List.mem_append.1 hx with hx | hx
          · exact hp.2.1 x hx
          · simp at hx; omega), Option.bind_some]
      unfold tryJ
      cases hf : fitB s t (to ++ [(i : Int)]) with
      | false => exact Tot.ret rfl
      | true =>
        rw [cond_true, spec_find s t hs ht k _ (by simp; omega) (pre_push hp hi (by omega) hf), Option.bind_some]
        cases hb : (findF s t k (to ++ [(i : Int)])).2 <;> exact Tot.ret (by simp [hb])
    · simp only [ltI, cond_dec]
      rw [if_neg (by omega)]
      exact Tot.ret rfl
    · subst hr
      unfold findF
      cases (List.range t.nodes.length).findSome? (tryJ s t (findF s t k) to) <;> exact Tot.ret rfl
theorem impl_find (s t : TStructure) (hs : okS s) (ht : small t.nodes.length) : ∀ (k : Nat) (to : List Int), to.length + k = s.nodes.length → pre s t to → fixN R_impl_FindEmbedding_1 (k + 1) (to, s, t, ()) = some (findF s t k to)
  | 0, to, hk, hp => by
    rw [show fixN R_impl_FindEmbedding_1 (0 + 1) (to, s, t, ()) = B_impl_FindEmbedding_1 (fun a b c => fixN R_impl_FindEmbedding_1 0 (a, b, c, ())) to s t from rfl]
    have hs1 := hs.1
    unfold B_impl_FindEmbedding_1
    simp only [eqI, cond_dec]
    rw [if_pos (by omega), impl_onto t to ht (by unfold small at *; omega), Option.bind_some]
    rfl
  | k + 1, to, hk, hp => by
    rw [show fixN R_impl_FindEmbedding_1 (k + 1 + 1) (to, s, t, ()) = B_impl_FindEmbedding_1 (fun a b c => fixN R_impl_FindEmbedding_1 (k + 1) (a, b, c, ())) to s t from rfl]
    have hs1 := hs.1
    have ht' := ht
    unfold small at hs1 ht'
    unfold B_impl_FindEmbedding_1
    simp only [eqI, cond_dec]
    rw [if_neg (by omega)]
    refine Tot.eq (Tot.bind (P := (· = firstR ((List.range t.nodes.length).findSome? (tryJ s t (findF s t k) to)) ())) (Tot.first t.nodes.length (tryJ s t (findF s t k) to) () (fun i hi => ?_) ?_ rfl) fun r hr => ?_)
    · simp only [ltI, cond_dec, clone_int to (by unfold small; omega), Option.bind_some, List.length_singleton]
      rw [if_pos (by omega), room_small (by omega) (by omega), Option.bind_some, addI_eq (by omega) (by omega),
        impl_fits s t _ hs ht (by simp) (by simp; omega) (fun x hx => by
          rcases List.mem_append.1 hx with hx | hx
          · exact hp.2.1 x hx
          · simp at hx; omega), Option.bind_some]
      unfold tryJ
      cases hf : fitB s t (to ++ [(i : Int)]) with
      | false => exact Tot.ret rfl
      | true =>
        rw [cond_true, impl_find s t hs ht k _ (by simp; omega) (pre_push hp hi (by omega) hf), Option.bind_some]
        cases hb : (findF s t k (to ++ [(i : Int)])).2 <;> exact Tot.ret (by simp [hb])
    · simp only [ltI, cond_dec]
      rw [if_neg (by omega)]
      exact Tot.ret rfl
    · subst hr
      unfold findF
      cases (List.range t.nodes.length).findSome? (tryJ s t (findF s t k) to) <;> exact Tot.ret rfl
theorem pre_nil (s t : TStructure) : pre s t [] := ⟨Nat.zero_le _, by simp [rngT], by simp⟩
def findE' (s t : TStructure) : List Int × Bool := let r := findF s t s.nodes.length []; if r.2 then (r.1, true) else ([], false)
theorem spec_findE (s t : TStructure) (hs : okS s) (ht : small t.nodes.length) : spec_FindEmbedding s t = some (findE' s t) := by
  have h : spec_l16Find s t [] = some (findF s t s.nodes.length []) := fixO_of R_spec_l16Find_mono (spec_find s t hs ht s.nodes.length [] (by simp) (pre_nil s t))
  have hl := findF_len s t s.nodes.length []
  have hs1 := hs.1
  unfold small at hs1
  simp only [List.length_nil, Nat.zero_add] at hl
  unfold spec_FindEmbedding findE'
  rw [h, Option.bind_some]
  cases hb : (findF s t s.nodes.length []).2 with
  | false => simp [hb]
  | true => simp only [cond_true, List.length_nil, Nat.zero_add]; rw [room_small (by omega) (by omega)]; simp [hb]
theorem impl_findE (s t : TStructure) (hs : okS s) (ht : small t.nodes.length) : impl_FindEmbedding s t = some (findE' s t) := by
  have h : impl_FindEmbedding_1 [] s t = some (findF s t s.nodes.length []) := fixO_of R_impl_FindEmbedding_1_mono (impl_find s t hs ht s.nodes.length [] (by simp) (pre_nil s t))
  unfold impl_FindEmbedding findE'
  rw [h, Option.bind_some]
  cases hb : (findF s t s.nodes.length []).2 <;> simp [hb]
def isEmb (s t : TStructure) : Bool := (findE' s t).2
theorem spec_isEmbedded (s t : TStructure) (hs : okS s) (ht : small t.nodes.length) : spec_IsEmbedded s t = some (isEmb s t) := by
  unfold spec_IsEmbedded
  rw [spec_findE s t hs ht]
  rfl
theorem impl_isEmbedded (s t : TStructure) (hs : okS s) (ht : small t.nodes.length) : impl_IsEmbedded s t = some (isEmb s t) := by
  unfold impl_IsEmbedded
  rw [impl_findE s t hs ht]
  rfl

/-! what a set describes -/
theorem strOf_ok (h : THeap) : okS (strOf h) := by
  have h1 := strOf_len h
  refine ⟨by unfold small; omega, ?_⟩
  unfold strOf
  split
  · split
    · split
      · intro n hn
        simp only [List.mem_map, List.mem_range] at hn
        obtain ⟨i, hi, rfl⟩ := hn
        unfold okN small nodeOf
        simp only [List.length_map]
        omega
      · simp
    · simp
  · simp
def okSet (set : List TStructure) : Prop := small set.length ∧ ∀ t ∈ set, small t.nodes.length
def setDesc (set : List TStructure) (h : THeap) : Bool := set.any fun t => isEmb (strOf h) t
theorem any_first {α : Type} (xs : List α) (p : α → Bool) (d : α) : (List.range xs.length).findSome? (fun i => if p (xs.getD i d) then some true else none) = if xs.any p then some true else none := by
  have : ∀ (ys : List α), (List.range ys.length).map (fun i => ys.getD i d) = ys := by
    intro ys
    apply List.ext_getElem
    · simp
    · intro i h1 h2
      simp [List.getD, h2]
  have h2 : (List.range xs.length).findSome? (fun i => if p (xs.getD i d) then some true else none) = ((List.range xs.length).map (fun i => xs.getD i d)).findSome? (fun x => if p x then some true else none) := by
    rw [List.findSome?_map]; rfl
  rw [h2, this]
  clear h2 this
  induction xs with
  | nil => rfl
  | cons x xs ih => rw [List.findSome?_cons, ih]; cases h : p x <;> simp [h]
theorem spec_setDescribes (set : List TStructure) (h : THeap) (hset : okSet set) (hh : tiny h) : spec_SetDescribes set h = some (setDesc set h) := by
  unfold spec_SetDescribes
  have hl := hset.1
  unfold small at hl
  have hD : ∀ t ∈ set, spec_Describes t h = some (isEmb (strOf h) t) := fun t ht => by
    unfold spec_Describes
    rw [spec_structureOf h (by unfold small; have := hh.1; omega) (by unfold small; have := hh.2; omega), Option.bind_some, spec_isEmbedded _ _ (strOf_ok h) (hset.2 t ht)]
    rfl
  refine Tot.eq (Tot.bind (P := (· = if setDesc set h then .inl true else .inr ())) (Tot.first set.length (fun i => if isEmb (strOf h) (set.getD i ⟨[], []⟩) then some true else none) () (fun i hi => ?_) ?_ ?_) fun r hr => ?_)
  · have hm : set.getD i ⟨[], []⟩ ∈ set := by simp [List.getD, hi]
    simp only [ltI, cond_dec, getD_at hi ⟨[], []⟩, Option.bind_some, hD _ hm]
    rw [if_pos (by omega), addI_eq (by omega) (by omega)]
    cases isEmb (strOf h) (set.getD i ⟨[], []⟩) <;> exact Tot.ret rfl
  · simp only [ltI, cond_dec]
    rw [if_neg (by omega)]
    exact Tot.ret rfl
  · rw [any_first set (fun t => isEmb (strOf h) t) ⟨[], []⟩]
    unfold setDesc
    cases set.any (fun t => isEmb (strOf h) t) <;> rfl
  · subst hr
    cases setDesc set h <;> exact Tot.ret rfl
theorem impl_setDescribes (set : List TStructure) (h : THeap) (hset : okSet set) (hh : tiny h) : impl_SetDescribes set h = some (setDesc set h) := by
  unfold impl_SetDescribes impl_Covers
  have h1 := hh.1
  have h2 := hh.2
  rw [impl_structureOf h (by unfold small; omega) (by unfold small; omega) (by unfold small; simp only [List.length_append]; omega), Option.bind_some]
  have hc := containsFunc_str set (fun x0 => impl_Covers_1 x0 (strOf h)) (fun t => isEmb (strOf h) t) (fun t ht => by
    unfold impl_Covers_1
    rw [impl_isEmbedded _ _ (strOf_ok h) (hset.2 t ht)]
    rfl) hset.1
  rw [hc]
  rfl
/-! the small heaps that a set describes -/
def shOf (v : Int) (set : List TStructure) (c : Int) : List THeap := (shL v c).filter (setDesc set)
theorem shOf_len (v : Int) (set : List TStructure) (c : Int) : (shOf v set c).length ≤ 1600000 := Nat.le_trans (List.length_filter_le _ _) (shL_len v c)
theorem filter_take {α : Type} (p : α → Bool) (xs : List α) {i : Nat} (h : i < xs.length) : (xs.take (i + 1)).filter p = (xs.take i).filter p ++ (if p xs[i] then [xs[i]] else []) := by
  rw [take_snoc1 h, List.filter_append]
  cases hp : p xs[i] <;> simp [hp]
theorem spec_smallHeapsOf (v : Int) (set : List TStructure) (c : Int) (hset : okSet set) : spec_SmallHeapsOf v set c = some (shOf v set c) := by
  unfold spec_SmallHeapsOf
  rw [spec_SH, Option.bind_some]
  have hl := shL_len v c
  have htn := shL_tiny v c
  unfold shOf
  generalize shL v c = xs at *
  refine Tot.eq (Tot.bind (P := (·.1 = xs.filter (setDesc set))) (Tot.loop (fun i s => s = ((xs.take i).filter (setDesc set), (i : Int), (i : Int))) xs.length (by simp) fun i s hI hi => ?_) fun r hr => Tot.ret hr)
  subst hI
  simp only [ltI, cond_dec]
  by_cases hlt : i < xs.length
  · have hfl := List.length_filter_le (setDesc set) (xs.take i)
    simp only [List.length_take] at hfl
    rw [if_pos (by omega)]
    simp only [at_nat, List.getElem?_eq_getElem hlt, Option.bind_some, takeI, if_true, spec_setDescribes set _ hset (htn _ (List.getElem_mem hlt)), List.length_singleton]
    rw [addI_eq (by omega) (by omega), room_small (by omega) (by omega)]
    have hf := filter_take (setDesc set) xs hlt
    cases hb : setDesc set xs[i] with
    | true =>
      rw [hb] at hf
      exact Tot.ret ⟨hlt, by simp only [hf, if_true, Option.bind_some]; rfl⟩
    | false =>
      rw [hb] at hf
      exact Tot.ret ⟨hlt, by simp [hf]⟩
  · rw [if_neg (by omega)]
    have : i = xs.length := by omega
    subst this
    exact Tot.ret (by simp)
theorem impl_smallHeapsOf (v : Int) (set : List TStructure) (c : Int) (hset : okSet set) : impl_SmallHeapsOf v set c = some (shOf v set c) := by
  unfold impl_SmallHeapsOf impl_described
  rw [impl_SH, Option.bind_some]
  have hl := shL_len v c
  have htn := shL_tiny v c
  unfold shOf
  generalize shL v c = xs at *
  refine Tot.eq (Tot.bind (P := (· = xs.filter (setDesc set))) (Tot.bind (P := (·.1 = xs.filter (setDesc set))) (Tot.loop (fun i s => s = ((xs.take i).filter (setDesc set), (i : Int), (i : Int))) xs.length (by simp) fun i s hI hi => ?_) fun r hr => Tot.ret hr) fun r hr => Tot.ret hr)
  subst hI
  simp only [ltI, cond_dec]
  by_cases hlt : i < xs.length
  · have hfl := List.length_filter_le (setDesc set) (xs.take i)
    simp only [List.length_take] at hfl
    rw [if_pos (by omega)]
    simp only [at_nat, List.getElem?_eq_getElem hlt, Option.bind_some, takeI, if_true, impl_SmallHeapsOf_1, impl_setDescribes set _ hset (htn _ (List.getElem_mem hlt)), List.length_singleton]
    rw [addI_eq (by omega) (by omega), room_small (by omega) (by omega)]
    have hf := filter_take (setDesc set) xs hlt
    cases hb : setDesc set xs[i] with
    | true =>
      rw [hb] at hf
      exact Tot.ret ⟨hlt, by simp only [hf, if_true, Option.bind_some]; rfl⟩
    | false =>
      rw [hb] at hf
      exact Tot.ret ⟨hlt, by simp [hf]⟩
  · rw [if_neg (by omega)]
    have : i = xs.length := by omega
    subst this
    exact Tot.ret (by simp)
end Go.Ev
