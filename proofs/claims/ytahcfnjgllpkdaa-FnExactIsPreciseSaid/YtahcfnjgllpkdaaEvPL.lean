import Derived.Test.YtahcfnjgllpkdaaEvAgg
import Derived.IntWalk
set_option linter.unusedSimpArgs false
set_option linter.unusedVariables false
set_option linter.unnecessarySimpa false
namespace Go.Ev

/-! PLAIN LAWS: loops as folds over lists; equality of rows -/
theorem cond_dec {α : Type} (p : Prop) [Decidable p] (x y : α) : cond (decide p) x y = if p then x else y := by by_cases h : p <;> simp [h]
theorem cond_ndec {α : Type} (p : Prop) [Decidable p] (x y : α) : cond (!decide p) x y = if p then y else x := by by_cases h : p <;> simp [h]
theorem addI_eq {a b : Int} (h1 : -9223372036854775808 ≤ a + b) (h2 : a + b ≤ 9223372036854775807) : addI a b = a + b := Go.IntWalk.i64_in _ (by omega)
theorem subI_eq {a b : Int} (h1 : -9223372036854775808 ≤ a - b) (h2 : a - b ≤ 9223372036854775807) : subI a b = a - b := Go.IntWalk.i64_in _ (by omega)
theorem mulI_eq {a b : Int} (h1 : -9223372036854775808 ≤ a * b) (h2 : a * b ≤ 9223372036854775807) : mulI a b = a * b := Go.IntWalk.i64_in _ (by omega)
theorem at_nat {α : Type} (xs : List α) (i : Nat) : at? xs (i : Int) = xs[i]? := by simp [at?]
theorem at_zero {α : Type} (xs : List α) : at? xs 0 = xs[0]? := by simp [at?]
theorem at_neg {α : Type} (xs : List α) {i : Int} (h : i < 0) : at? xs i = none := by unfold at?; rw [if_neg (by omega)]

def foldE {α β ρ : Type} (f : β → Nat → α → Option (β ⊕ ρ)) (e : β → Option ρ) : β → Nat → List α → Option ρ
  | b, _, [] => e b
  | b, i, x :: xs => match f b i x with
    | none => none
    | some (.inl b') => foldE f e b' (i + 1) xs
    | some (.inr r) => some r

theorem iter_none {σ ρ : Type} {step : σ → Option (σ ⊕ ρ)} {s : σ} (h : step s = none) : iter step s = none := by
  cases hi : iter step s with
  | none => rfl
  | some r =>
    obtain ⟨n, hn⟩ := iter_some.1 hi
    cases n with
    | zero => cases hn
    | succ n => rw [iterN, h] at hn; cases hn

/-- a loop over a list's places is a fold -/
theorem iter_list {α β σ ρ : Type} (xs : List α) {step : σ → Option (σ ⊕ ρ)} (S : β → Int → σ) (f : β → Nat → α → Option (β ⊕ ρ)) (e : β → Option ρ)
    (h1 : ∀ b (i : Nat) x, xs[i]? = some x → step (S b i) = (f b i x).map (Sum.map (fun b' => S b' ((i : Int) + 1)) id))
    (h2 : ∀ b, step (S b xs.length) = (e b).map .inr) (b : β) : iter step (S b 0) = foldE f e b 0 xs := by
  have key : ∀ (suf : List α) (i : Nat) (b : β), xs.drop i = suf → i ≤ xs.length → iter step (S b i) = foldE f e b i suf := by
    intro suf
    induction suf with
    | nil =>
      intro i b hd hi
      have : i = xs.length := by
        have := congrArg List.length hd
        simp at this; omega
      subst this
      have := h2 b
      cases he : e b with
      | none => rw [he] at this; rw [iter_none this, foldE, he]
      | some r => rw [he] at this; rw [iter_inr this, foldE, he]
    | cons x suf ih =>
      intro i b hd hi
      have hx : xs[i]? = some x := by
        have := congrArg (fun l => l[0]?) hd
        simpa using this
      have hlt : i < xs.length := (List.getElem?_eq_some_iff.1 hx).1
      have hd2 : xs.drop (i + 1) = suf := by
        have := congrArg List.tail hd
        simpa using this
      have hs := h1 b i x hx
      rw [foldE]
      cases hf : f b i x with
      | none => rw [hf] at hs; rw [iter_none hs]
      | some a =>
        rw [hf] at hs
        cases a with
        | inl b' =>
          rw [iter_inl (s' := S b' ((i : Int) + 1)) hs]
          exact ih (i + 1) b' hd2 hlt
        | inr r => rw [iter_inr (r := r) hs]
  exact key xs 0 b rfl (Nat.zero_le _)

/-- two rows of one length, held against one another place by place -/
theorem iter_eq2 {α ρ : Type} {xs ys : List α} (hl : xs.length = ys.length) {step : Int → Option (Int ⊕ ρ)} (rf rt : ρ) [DecidableEq α]
    (h1 : ∀ (i : Nat) x y, xs[i]? = some x → ys[i]? = some y → step i = some (if x = y then .inl ((i : Int) + 1) else .inr rf))
    (h2 : step xs.length = some (.inr rt)) : iter step 0 = some (if xs = ys then rt else rf) := by
  have key : ∀ (s t : List α) (i : Nat), xs.drop i = s → ys.drop i = t → i ≤ xs.length → iter step (i : Int) = some (if s = t then rt else rf) := by
    intro s
    induction s with
    | nil =>
      intro t i hs ht hi
      have e1 : i = xs.length := by
        have := congrArg List.length hs
        simp at this; omega
      subst e1
      have e2 : t = [] := by rw [← ht, hl]; simp
      subst e2
      rw [iter_inr h2]; simp
    | cons x s ih =>
      intro t i hs ht hi
      have hx : xs[i]? = some x := by
        have := congrArg (fun l => l[0]?) hs
        simpa using this
      have hlt : i < xs.length := (List.getElem?_eq_some_iff.1 hx).1
      have hy : ys[i]? = some ys[i] := List.getElem?_eq_getElem (by omega)
      have ht2 : t = ys[i] :: ys.drop (i + 1) := by rw [← ht]; exact List.drop_eq_getElem_cons (by omega)
      have hs2 : xs.drop (i + 1) = s := by
        have := congrArg List.tail hs
        simpa using this
      have h := h1 i x _ hx hy
      by_cases he : x = ys[i]
      · rw [if_pos he] at h
        rw [iter_inl h]
        have := ih (ys.drop (i + 1)) (i + 1) hs2 rfl hlt
        rw [show ((i : Int) + 1) = ((i + 1 : Nat) : Int) from rfl, this, ht2]
        simp only [List.cons.injEq, he, true_and]
      · rw [if_neg he] at h
        rw [iter_inr h, ht2]
        simp only [List.cons.injEq, he, false_and, if_false]
  exact key xs ys 0 rfl rfl (Nat.zero_le _)

theorem ba_toList (a : ByteArray) : a.toList = a.data.toList := by
  have key : ∀ (n i : Nat) (r : List UInt8), n = a.size - i → ByteArray.toList.loop a i r = r.reverse ++ a.data.toList.drop i := by
    intro n
    induction n with
    | zero =>
      intro i r h
      rw [ByteArray.toList.loop]
      have : ¬ i < a.size := by omega
      rw [if_neg this]
      have : a.data.toList.drop i = [] := by
        apply List.drop_eq_nil_of_le
        simp only [Array.length_toList]
        have : a.size = a.data.size := rfl
        omega
      rw [this]; simp
    | succ n ih =>
      intro i r h
      rw [ByteArray.toList.loop]
      have hi : i < a.size := by omega
      rw [if_pos hi, ih (i + 1) _ (by omega)]
      have hs : a.size = a.data.size := rfl
      have hd : a.data.toList.drop i = a.data.toList[i]'(by simp only [Array.length_toList]; omega) :: a.data.toList.drop (i + 1) := List.drop_eq_getElem_cons _
      rw [hd, List.reverse_cons, List.append_assoc]
      congr 1
      simp only [List.cons_append, List.nil_append, List.cons.injEq, and_true]
      rw [Array.getElem_toList]
      show ByteArray.get! a i = _
      unfold ByteArray.get!
      exact getElem!_pos a.data i (by omega)
  rw [ByteArray.toList, key (a.size - 0) 0 [] rfl]
  simp
theorem ba_inj {a b : ByteArray} (h : a.toList = b.toList) : a = b := by
  rw [ba_toList, ba_toList] at h
  cases a; cases b
  simp only at h
  congr
  exact Array.toList_inj.1 h
theorem eqS_dec (a b : ByteArray) : eqS a b = decide (a = b) := by
  unfold eqS
  by_cases h : a = b
  · subst h; simp
  · have : ¬ a.toList = b.toList := fun hh => h (ba_inj hh)
    simp [h, this]
theorem neS_dec (a b : ByteArray) : neS a b = !decide (a = b) := by rw [← eqS_dec]; rfl

/-- a row made and filled from the front: what comes of it -/
theorem iter_fill {α β : Type} {xs : List α} {z : β} {step : Int × List β → Option ((Int × List β) ⊕ List β)} {F : α → Option β} {ys : List β} (hF : xs.mapM F = some ys)
    (h1 : ∀ (i : Nat) x y (o : List β), xs[i]? = some x → F x = some y → i < o.length → step (i, o) = some (.inl ((i : Int) + 1, o.set i y)))
    (h2 : ∀ o, step (xs.length, o) = some (.inr o)) : iter step (0, List.replicate xs.length z) = some ys := by
  have key : ∀ (s : List α) (t done : List β), xs.drop done.length = s → done.length + s.length = xs.length → s.mapM F = some t → iter step (done.length, done ++ List.replicate s.length z) = some (done ++ t) := by
    intro s
    induction s with
    | nil =>
      intro t done hs hi ht
      simp only [List.length_nil, Nat.add_zero] at hi
      have ht : t = [] := by simpa using ht.symm
      subst ht
      rw [hi, iter_inr (h2 _)]; simp
    | cons x s ih =>
      intro t done hs hi ht
      rw [List.mapM_cons] at ht
      cases hx : F x with
      | none => rw [hx] at ht; cases ht
      | some y =>
        rw [hx] at ht
        cases hst : s.mapM F with
        | none => rw [hst] at ht; cases ht
        | some t' =>
          rw [hst] at ht
          have ht : t = y :: t' := by simpa using ht.symm
          subst ht
          have hxi : xs[done.length]? = some x := by
            have := congrArg (fun l => l[0]?) hs
            simpa using this
          have hs2 : xs.drop (done.length + 1) = s := by
            have := congrArg List.tail hs
            simpa using this
          simp only [List.length_cons] at hi
          have hstep := h1 done.length x y (done ++ List.replicate (s.length + 1) z) hxi hx (by simp)
          rw [List.length_cons, iter_inl hstep]
          have hset : (done ++ List.replicate (s.length + 1) z).set done.length y = (done ++ [y]) ++ List.replicate s.length z := by
            rw [List.set_append_right _ _ (Nat.le_refl _), Nat.sub_self, List.replicate_succ, List.set_cons_zero]; simp
          rw [hset]
          have := ih t' (done ++ [y]) (by simpa using hs2) (by simp; omega) hst
          rw [show ((done.length : Int) + 1) = ((done ++ [y]).length : Int) by simp, this]
          simp
  have := key xs ys [] rfl (by simp) hF
  simpa using this

theorem mapM_self {α : Type} {F : α → Option α} : ∀ {xs : List α}, (∀ x ∈ xs, F x = some x) → xs.mapM F = some xs
  | [], _ => rfl
  | x :: xs, h => by
    rw [List.mapM_cons, h x (by simp), mapM_self fun y hy => h y (by simp [hy])]
    rfl
end Go.Ev
