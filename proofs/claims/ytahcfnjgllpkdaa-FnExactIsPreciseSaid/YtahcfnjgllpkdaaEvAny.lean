import Derived.Test.YtahcfnjgllpkdaaEvDraw
set_option linter.unusedSimpArgs false
set_option linter.unusedVariables false
set_option linter.unnecessarySimpa false
namespace Go.Ev

theorem a_dst {g : Cfg} {d f : Nat} {o : Oper} {σ : St} {r : AV × St} (hc : clsOf g f o = .a) (h : opE g d f o σ = some r) : o.dst.isSome = true := by
  obtain ⟨dst, op, ty, pos, after, guard⟩ := o
  cases op with
  | alloc e =>
    simp only [opE, bind, Option.bind_eq_some_iff] at h
    obtain ⟨i, hi, t, rfl, h⟩ := h
    rfl
  | box e x =>
    simp only [opE, bind, Option.bind_eq_some_iff] at h
    obtain ⟨i, hi, t, rfl, h⟩ := h
    rfl
  | load t a => simp only [clsOf] at hc; split at hc <;> cases hc
  | makeSlice mt l c =>
    simp only [clsOf] at hc
    split at hc
    · rename_i htk
      simp only [opE, bind, Option.bind_eq_some_iff] at h
      obtain ⟨i, hi, e, he, ei, hei, n, hn, cp, hcp, h⟩ := h
      split at h
      · cases h
      · split at h
        · simp only [Option.bind_eq_some_iff] at h
          obtain ⟨t, rfl, _⟩ := h
          rfl
        · cases h
    · cases hc
  | call cl =>
    obtain ⟨callee, args, argTypes⟩ := cl
    exfalso
    cases callee with
    | value x =>
      cases x with
      | func k => simp only [clsOf] at hc; split at hc <;> cases hc
      | _ => simp [clsOf] at hc
    | _ => simp [clsOf] at hc
  | _ => simp [clsOf] at hc

def LocalW (S : St → Option St) (R W : List Nat) (c : Cls) (key : Key) (σ σ1 : St) : Prop :=
  (∀ t, t ∉ W → σ1.env t = σ.env t) ∧ effM c key σ.mem σ1.mem ∧
    ∀ σ', (∀ t ∈ R, σ'.env t = σ.env t) → agreeM c key σ.mem σ'.mem → ∃ σ1', S σ' = some σ1' ∧ (∀ t ∈ W, σ1'.env t = σ1.env t) ∧ sameM c key σ1.mem σ1'.mem

theorem isV {op : Op} : (∃ x args argTypes, op = .call { callee := .value x, args, argTypes }) ∨ (∀ x args argTypes, op ≠ .call { callee := .value x, args, argTypes }) := by
  cases op with
  | call c =>
    obtain ⟨callee, args, at_⟩ := c
    cases callee with
    | value x => exact .inl ⟨x, args, at_, rfl⟩
    | _ => right; intro x args at_ h; cases h
  | _ => right; intro x args at_ h; cases h

theorem stepW_op {call : Nat → List AV → Mem → Option (AV × Mem)} {g : Cfg} {d f : Nat} {o : Oper} {σ : St} (h : ∀ x args argTypes, o.op ≠ .call { callee := .value x, args, argTypes }) :
    stepW call g d f o σ = (opE g d f o σ).bind fun vs => some { vs.2 with env := putD vs.2.env o.dst vs.1 } := by
  unfold stepW
  split
  · rename_i hh; exact absurd hh (h _ _ _)
  · rfl

theorem stepW_call {call : Nat → List AV → Mem → Option (AV × Mem)} {g : Cfg} {d f : Nat} {o : Oper} {σ : St} {x : Operand} {args : Array Operand} {argTypes : Array TypeId} (h : o.op = .call { callee := .value x, args, argTypes }) :
    stepW call g d f o σ = (calleeOf σ.env x).bind fun kc =>
    (call kc.1 (args.toList.map (fun y => (opnd σ.env y).copy) ++ kc.2) σ.mem).bind fun rm => some { env := putD σ.env o.dst rm.1, mem := rm.2 } := by
  unfold stepW
  rw [h]

theorem stepW_local (g : Cfg) (n d f : Nat) (ops : Array Oper) (o : Oper) {σ σ1 : St} (h : stepW (callN g n d) g d f o σ = some σ1) :
    LocalW (stepW (callN g n d) g d f o) (readsOf ops o) (writesOf g f o) (clsOf g f o) (d, o.dst.getD 0) σ σ1 := by
  rcases isV (op := o.op) with ⟨x, args, argTypes, ho⟩ | hne
  · have hall : ∀ σ' : St, (∀ t ∈ readsOf ops o, σ'.env t = σ.env t) → opnd σ'.env x = opnd σ.env x ∧ ∀ y ∈ args.toList, opnd σ'.env y = opnd σ.env y := by
      intro σ' hR
      refine ⟨opnd_eq hR (by rw [ho]; simp [Op.operands, Call.operands]), fun y hy => opnd_eq hR ?_⟩
      rw [ho]
      simp only [Op.operands, Call.operands]
      exact Array.mem_append_right _ (by simpa using hy)
    have hW : writesOf g f o = o.dst.toList := by unfold writesOf; rw [ho]; simp
    rw [stepW_call ho] at h
    rw [Option.bind_eq_some_iff] at h
    obtain ⟨kc, hkc, h⟩ := h
    rw [Option.bind_eq_some_iff] at h
    obtain ⟨rm, hrm, h⟩ := h
    simp only [Option.some.injEq] at h
    subst h
    have hput : ∀ t, t ∉ writesOf g f o → putD σ.env o.dst rm.1 t = σ.env t := fun t ht => putD_out fun e => ht (by rw [hW, e]; simp)
    have hput2 : ∀ (e e' : Nat → AV) t, t ∈ writesOf g f o → putD e' o.dst rm.1 t = putD e o.dst rm.1 t := fun e e' t ht => by
      rw [hW] at ht
      cases hd : o.dst with
      | none => rw [hd] at ht; simp at ht
      | some u => rw [hd] at ht; simp at ht; subst ht; simp [putD, upd]
    by_cases hcx : ∃ k F, x = .func k ∧ lookN k g.ctx = some F
    · obtain ⟨k, F, rfl, hF⟩ := hcx
      have hcls : clsOf g f o = .p := by unfold clsOf; rw [ho]; simp [hF]
      have hkc' : kc = (k, []) := (Option.some.inj hkc).symm
      subst hkc'
      have hk0 : ∀ e, calleeOf e (.func k) = some (k, []) := fun _ => rfl
      cases n with
      | zero => simp only [callN] at hrm; cases hrm
      | succ n =>
        simp only [callN, hF, List.append_nil] at hrm
        rw [Option.bind_eq_some_iff] at hrm
        obtain ⟨la, hla, hrm⟩ := hrm
        rw [Option.bind_eq_some_iff] at hrm
        obtain ⟨r, hr, hrm⟩ := hrm
        split at hrm
        · rename_i hc
          simp only [Option.some.injEq] at hrm
          subst hrm
          refine ⟨hput, by rw [hcls]; rfl, fun σ' hR _ => ⟨{ σ' with env := putD σ'.env o.dst r }, ?_, fun t ht => hput2 _ _ t ht, by rw [hcls]; trivial⟩⟩
          have ha : args.toList.map (fun y => (opnd σ'.env y).copy) = args.toList.map (fun y => (opnd σ.env y).copy) := List.map_congr_left fun y hy => by rw [(hall σ' hR).2 y hy]
          rw [stepW_call ho]
          rw [hk0]
          simp only [Option.bind_some, List.append_nil, callN, hF]
          rw [ha, hla]
          simp only [Option.bind_some, hr]
          rw [if_pos hc]
          rfl
        · cases hrm
    · have hcls : clsOf g f o = .m := by
        unfold clsOf
        rw [ho]
        cases x with
        | func k =>
          cases hl : lookN k g.ctx with
          | none => simp [hl]
          | some F => exact absurd ⟨k, F, rfl, hl⟩ hcx
        | _ => rfl
      refine ⟨hput, by rw [hcls]; trivial, fun σ' hR hA => ?_⟩
      rw [hcls] at hA
      have hm : σ'.mem = σ.mem := hA
      refine ⟨{ env := putD σ'.env o.dst rm.1, mem := rm.2 }, ?_, fun t ht => hput2 _ _ t ht, by rw [hcls]; rfl⟩
      have ha : args.toList.map (fun y => (opnd σ'.env y).copy) = args.toList.map (fun y => (opnd σ.env y).copy) := List.map_congr_left fun y hy => by rw [(hall σ' hR).2 y hy]
      have hk : calleeOf σ'.env x = some kc := by unfold calleeOf at hkc ⊢; rw [(hall σ' hR).1]; exact hkc
      rw [stepW_call ho, hk]
      simp only [Option.bind_some]
      rw [ha, hm, hrm]
      rfl
  · rw [stepW_op hne] at h
    rw [Option.bind_eq_some_iff] at h
    obtain ⟨⟨v, σ2⟩, hv, h⟩ := h
    simp only [Option.some.injEq] at h
    subst h
    obtain ⟨h1, h2, h3⟩ := opE_local g d f ops o hv
    refine ⟨fun t ht => ?_, h2, fun σ' hR hA => ?_⟩
    · rw [writes_eq, List.mem_append, not_or] at ht
      show putD σ2.env o.dst v t = σ.env t
      rw [putD_out fun e => ht.1 (by rw [e]; simp)]
      exact h1 t ht.2
    · obtain ⟨σ1', a1, a2, a3⟩ := h3 σ' hR hA
      refine ⟨{ σ1' with env := putD σ1'.env o.dst v }, by rw [stepW_op hne, a1]; rfl, fun t ht => ?_, a3⟩
      rw [writes_eq, List.mem_append] at ht
      show putD σ1'.env o.dst v t = putD σ2.env o.dst v t
      by_cases hd : o.dst = some t
      · rw [hd]; simp [putD, upd]
      · rw [putD_out hd, putD_out hd]
        refine a2 t (ht.resolve_left fun hh => hd ?_)
        cases hdd : o.dst with
        | none => rw [hdd] at hh; simp at hh
        | some u => rw [hdd] at hh; simp at hh; rw [hh]

theorem takes_reads {g : Cfg} {f : Nat} {ops : Array Oper} {o : Oper} {t : Nat} (h : t ∈ takesOf g f o) : t ∈ readsOf ops o := by
  unfold takesOf at h
  unfold readsOf
  refine List.mem_append_left _ ?_
  dsimp only at h
  split at h
  · split at h
    · exact h
    · cases h
  all_goals first | exact h | cases h

/-- one step of a region, the guard's answer fixed -/
def stepB (S : Oper → St → Option St) (ops : Array Oper) (o : Oper) (b : Bool) (σ : St) : Option St :=
  if wants ops σ.env o = some b then (if b then S o σ else some { σ with env := putD σ.env o.dst .skp }) else none

theorem stepG_iff {S : Oper → St → Option St} {ops : Array Oper} {o : Oper} {σ σ1 : St} : stepG S ops o σ = some σ1 ↔ ∃ b, stepB S ops o b σ = some σ1 := by
  unfold stepG stepB
  constructor
  · intro h
    rw [Option.bind_eq_some_iff] at h
    obtain ⟨b, hb, h⟩ := h
    exact ⟨b, by rw [if_pos hb]; exact h⟩
  · rintro ⟨b, h⟩
    split at h
    · rename_i hb; rw [hb]; exact h
    · cases h

def clsB (g : Cfg) (f : Nat) (o : Oper) (b : Bool) : Cls := if b then clsOf g f o else .p

theorem stepB_local (g : Cfg) (n d f : Nat) (ops : Array Oper) (o : Oper) (b : Bool) : Local (stepB (stepW (callN g n d) g d f) ops o b) (readsOf ops o) (writesOf g f o) (clsB g f o b) (d, o.dst.getD 0) := by
  have key : ∀ σ σ1, stepB (stepW (callN g n d) g d f) ops o b σ = some σ1 → LocalW (stepB (stepW (callN g n d) g d f) ops o b) (readsOf ops o) (writesOf g f o) (clsB g f o b) (d, o.dst.getD 0) σ σ1 := by
    intro σ σ1 h
    unfold stepB at h
    split at h
    · rename_i hb
      cases b with
      | true =>
        simp only [if_true] at h
        obtain ⟨h1, h2, h3⟩ := stepW_local g n d f ops o h
        refine ⟨h1, h2, fun σ' hR hA => ?_⟩
        obtain ⟨σ1', a1, a2, a3⟩ := h3 σ' hR hA
        refine ⟨σ1', ?_, a2, a3⟩
        unfold stepB
        rw [wants_eq hR, if_pos hb]
        exact a1
      | false =>
        simp only [Bool.false_eq_true, if_false, Option.some.injEq] at h
        subst h
        refine ⟨fun t ht => putD_out fun e => ht (by rw [writes_eq, e]; simp), rfl, fun σ' hR _ => ⟨{ σ' with env := putD σ'.env o.dst .skp }, ?_, fun t ht => ?_, trivial⟩⟩
        · unfold stepB
          rw [wants_eq hR, if_pos hb]
          rfl
        · show putD σ'.env o.dst .skp t = putD σ.env o.dst .skp t
          rw [writes_eq, List.mem_append] at ht
          by_cases hd : o.dst = some t
          · rw [hd]; simp [putD, upd]
          · rw [putD_out hd, putD_out hd]
            have ht2 := ht.resolve_left fun hh => hd (by
              cases hdd : o.dst with
              | none => rw [hdd] at hh; simp at hh
              | some u => rw [hdd] at hh; simp at hh; rw [hh])
            exact hR t (takes_reads ht2)
    · cases h
  exact ⟨fun σ σ1 h => (key σ σ1 h).1, fun σ σ1 h => (key σ σ1 h).2.1, fun σ σ1 σ' h => (key σ σ1 h).2.2 σ'⟩

theorem stepB_a {g : Cfg} {n d f : Nat} {ops : Array Oper} {o : Oper} {b : Bool} {σ σ1 : St} (hc : clsB g f o b = .a) (h : stepB (stepW (callN g n d) g d f) ops o b σ = some σ1) : o.dst.isSome = true := by
  cases b with
  | false => cases hc
  | true =>
    have hc : clsOf g f o = .a := hc
    unfold stepB at h
    split at h
    · simp only [if_true] at h
      have hne : ∀ x args argTypes, o.op ≠ .call { callee := .value x, args, argTypes } := by
        intro x args at_ ho
        unfold clsOf at hc
        rw [ho] at hc
        cases x with
        | func k => simp only at hc; split at hc <;> cases hc
        | _ => cases hc
      rw [stepW_op hne, Option.bind_eq_some_iff] at h
      obtain ⟨vs, hv, _⟩ := h
      exact a_dst hc hv
    · cases h

theorem disj_spec {a b : List Nat} (h : disj a b = true) {t : Nat} (ha : t ∈ a) : t ∉ b := by
  unfold disj at h
  rw [List.all_eq_true] at h
  have := h t ha
  simpa using this

theorem clsB_ok {g : Cfg} {f : Nat} {x y : Oper} (h : clsOK (clsOf g f x) (clsOf g f y) = true) (bx by_ : Bool) : clsOK (clsB g f x bx) (clsB g f y by_) = true := by
  cases bx with
  | false => cases hh : clsB g f y by_ <;> rfl
  | true =>
    cases by_ with
    | false => show clsOK (clsOf g f x) .p = true; cases clsOf g f x <;> rfl
    | true => exact h

theorem stepG_swap {g : Cfg} {n d f : Nat} {ops : Array Oper} {x y : Oper} (h : comm g f ops x y = true) {σ σ1 σ2 : St} (h1 : stepG (stepW (callN g n d) g d f) ops x σ = some σ1) (h2 : stepG (stepW (callN g n d) g d f) ops y σ1 = some σ2) :
    ∃ σ1', stepG (stepW (callN g n d) g d f) ops y σ = some σ1' ∧ stepG (stepW (callN g n d) g d f) ops x σ1' = some σ2 := by
  simp only [comm, Bool.and_eq_true] at h
  obtain ⟨⟨⟨c1, c2⟩, c3⟩, c4⟩ := h
  obtain ⟨bx, h1⟩ := stepG_iff.1 h1
  obtain ⟨by_, h2⟩ := stepG_iff.1 h2
  obtain ⟨σ1', a1, a2⟩ := swap (stepB_local g n d f ops x bx) (stepB_local g n d f ops y by_) (fun t ht => disj_spec c1 ht) (fun t ht => disj_spec c2 ht) (fun t ht => disj_spec c3 ht) (clsB_ok c4 bx by_)
    (fun hx hy hk => by
      have e1 := stepB_a hx h1
      have e2 := stepB_a hy h2
      cases hdx : x.dst with
      | none => rw [hdx] at e1; cases e1
      | some t =>
        cases hdy : y.dst with
        | none => rw [hdy] at e2; cases e2
        | some u =>
          rw [hdx, hdy] at hk
          simp at hk
          subst hk
          exact disj_spec c2 (t := t) (by rw [writes_eq, hdx]; simp) (by rw [writes_eq, hdy]; simp)) h1 h2
  exact ⟨σ1', stepG_iff.2 ⟨by_, a1⟩, stepG_iff.2 ⟨bx, a2⟩⟩

def irun (S : Oper → St → Option St) (ops : Array Oper) : List Nat → St → Option St
  | [], σ => some σ
  | i :: r, σ => (ops[i]?).bind fun o => (stepG S ops o σ).bind (irun S ops r)

theorem irun_range (S : Oper → St → Option St) (ops : Array Oper) : ∀ (k i : Nat), i + k = ops.size → ∀ σ, irun S ops (List.range' i k) σ = arun S ops (ops.toList.drop i) σ
  | 0, i, hi, σ => by
    rw [List.drop_eq_nil_of_le (by rw [Array.length_toList]; omega)]
    rfl
  | k + 1, i, hi, σ => by
    have hlt : i < ops.toList.length := by rw [Array.length_toList]; omega
    rw [List.drop_eq_getElem_cons hlt, List.range'_succ]
    have ho : ops[i]? = some ops.toList[i] := by rw [← Array.getElem?_toList]; exact List.getElem?_eq_getElem hlt
    simp only [irun, ho, arun, Option.bind_some]
    congr 1
    funext σ'
    exact irun_range S ops k (i + 1) (by omega) σ'

def commI (g : Cfg) (f : Nat) (ops : Array Oper) (j i : Nat) : Prop := ∀ x y, ops[j]? = some x → ops[i]? = some y → comm g f ops x y = true

theorem irun_front {g : Cfg} {n d f : Nat} {ops : Array Oper} {i : Nat} {post : List Nat} : ∀ (pre : List Nat) (σ σ' : St), (∀ j ∈ pre, commI g f ops j i) →
    irun (stepW (callN g n d) g d f) ops (pre ++ i :: post) σ = some σ' → irun (stepW (callN g n d) g d f) ops (i :: (pre ++ post)) σ = some σ'
  | [], σ, σ', _, h => h
  | j :: pre, σ, σ', hc, h => by
    simp only [List.cons_append, irun, Option.bind_eq_some_iff] at h
    obtain ⟨x, hx, σ1, h1, h2⟩ := h
    have ih := irun_front pre σ1 σ' (fun k hk => hc k (List.mem_cons_of_mem _ hk)) h2
    simp only [irun, Option.bind_eq_some_iff] at ih
    obtain ⟨y, hy, σ2, h3, h4⟩ := ih
    obtain ⟨σ1', a1, a2⟩ := stepG_swap (hc j (List.mem_cons_self ..) x y hx hy) h1 h3
    simp only [List.cons_append, irun, Option.bind_eq_some_iff]
    exact ⟨y, hy, σ1', a1, x, hx, σ2, a2, h4⟩

/-- whatever order is drawn -/
theorem wpAny_run {P : Program} {g : Cfg} {n d f N : Nat} {ops : Array Oper} {Q : Exit → Act → World → Prop} (hS : ∀ o ∈ ops.toList, ∀ σ σ', stepW (callN g n d) g d f o σ = some σ' → StepOK P d N o σ σ')
    (hd : ∀ o ∈ ops.toList, o.dst.all (· < N) = true) (hok : regionOK g f ops = true) : ∀ (fuel : Nat) (rem : List Nat) (listed : Array Bool) (G : Gh) (w : World) (a : Act) (σ σ' : St), rem.length ≤ fuel → listed.size = ops.size → rem.Pairwise (· < ·) →
    (∀ i, i ∈ rem ↔ i < ops.size ∧ listed.getD i true = false) → Sim d N G σ a.tmps w → irun (stepW (callN g n d) g d f) ops rem σ = some σ' →
    (∀ G' a' w', Sim d N G' σ' a'.tmps w' → Frm d G w G' w' → a'.defers = a.defers → Q .normal a' w') → wpAny P .any ops Q fuel listed a w := by
  have hreg : ∀ i y, ops[i]? = some y → (∀ e ∈ y.after, Region.binds .any e = true → e.on < i) ∧ ∀ j x, j < i → ops[j]? = some x → (∃ e ∈ y.after, e.on = j ∧ Region.binds .any e = true) ∨ comm g f ops x y = true := by
    intro i y hy
    have hi : i < ops.size := (Array.getElem?_eq_some_iff.1 hy).1
    unfold regionOK at hok
    rw [List.all_eq_true] at hok
    have := hok i (List.mem_range.2 hi)
    rw [hy] at this
    simp only [Bool.and_eq_true] at this
    obtain ⟨t1, t2⟩ := this
    refine ⟨fun e he hb => ?_, fun j x hj hx => ?_⟩
    · rw [Array.all_eq_true_iff_forall_mem] at t1
      have := t1 e he
      rw [hb] at this
      simpa using this
    · rw [List.all_eq_true] at t2
      have := t2 j (List.mem_range.2 hj)
      rw [hx] at this
      simp only [Bool.or_eq_true] at this
      rcases this with h | h
      · left
        rw [Array.any_eq_true] at h
        obtain ⟨q, hq, h⟩ := h
        simp only [Bool.and_eq_true, beq_iff_eq] at h
        exact ⟨_, Array.getElem_mem hq, h.1, h.2⟩
      · exact .inr h
  intro fuel
  induction fuel with
  | zero =>
    intro rem listed G w a σ σ' hlen hsz hp hl hs hr hQ
    have : rem = [] := List.length_eq_zero_iff.1 (by omega)
    subst this
    simp only [irun, Option.some.injEq] at hr
    subst hr
    refine ⟨?_, hQ G a w hs (Frm.refl _ _ _) rfl⟩
    unfold Region.ready
    rw [List.filter_eq_nil_iff]
    intro i hi hh
    simp only [Bool.and_eq_true, Bool.not_eq_true'] at hh
    have := (hl i).2 ⟨List.mem_range.1 hi, hh.1⟩
    cases this
  | succ fuel ih =>
    intro rem listed G w a σ σ' hlen hsz hp hl hs hr hQ
    refine ⟨fun hnil => ?_, fun i hi => ?_⟩
    · cases rem with
      | nil =>
        simp only [irun, Option.some.injEq] at hr
        subst hr
        exact hQ G a w hs (Frm.refl _ _ _) rfl
      | cons i rem =>
        exfalso
        have hi := (hl i).1 (List.mem_cons_self ..)
        have hready : i ∈ Region.ready .any ops listed := by
          unfold Region.ready
          rw [List.mem_filter]
          refine ⟨List.mem_range.2 hi.1, ?_⟩
          have hy : ops[i]? = some ops[i] := Array.getElem?_eq_getElem hi.1
          rw [hy, hi.2]
          simp only [Option.map_some, Option.getD_some, Bool.not_false, Bool.true_and]
          rw [Array.all_eq_true_iff_forall_mem]
          intro e he
          cases hb : Region.binds .any e with
          | false => rfl
          | true =>
            have hlt := (hreg i _ hy).1 e he hb
            simp only [Bool.not_true, Bool.false_or]
            cases hle : listed.getD e.on false with
            | true => rfl
            | false =>
              have hlt2 : e.on < ops.size := by omega
              have : listed.getD e.on true = false := by
                rw [Array.getD_eq_getD_getElem?] at hle ⊢
                rw [Array.getElem?_eq_getElem (by omega)] at hle ⊢
                exact hle
              have hmem := (hl e.on).2 ⟨hlt2, this⟩
              rw [List.pairwise_cons] at hp
              cases hmem with
              | head => omega
              | tail _ hm => have := hp.1 _ hm; omega
        rw [hnil] at hready
        cases hready
    · unfold Region.ready at hi
      rw [List.mem_filter] at hi
      obtain ⟨hi1, hi2⟩ := hi
      have hi1 := List.mem_range.1 hi1
      simp only [Bool.and_eq_true, Bool.not_eq_true'] at hi2
      have hy : ops[i]? = some ops[i] := Array.getElem?_eq_getElem hi1
      obtain ⟨hi2, hi3⟩ := hi2
      rw [hy] at hi3
      simp only [Option.map_some, Option.getD_some] at hi3
      rw [Array.all_eq_true_iff_forall_mem] at hi3
      have hmem := (hl i).2 ⟨hi1, hi2⟩
      obtain ⟨pre, post, rfl⟩ := List.append_of_mem hmem
      have hfront := irun_front pre σ σ' (fun j hj => by
        intro x y hx hy'
        rw [hy] at hy'
        cases hy'
        have hji : j < i := by
          rw [List.pairwise_append] at hp
          exact hp.2.2 j hj i (List.mem_cons_self ..)
        rcases (hreg i _ hy).2 j x hji hx with ⟨e, he, rfl, hb⟩ | h
        · exfalso
          have h3 := hi3 e he
          rw [hb] at h3
          simp only [Bool.not_true, Bool.false_or] at h3
          have := ((hl e.on).1 (List.mem_append_left _ hj))
          rw [Array.getD_eq_getD_getElem?] at h3 this
          rw [Array.getElem?_eq_getElem (by omega)] at h3
          rw [Array.getElem?_eq_getElem (by omega)] at this
          simp only [Option.getD_some] at h3 this
          rw [this.2] at h3
          cases h3
        · exact h) hr
      simp only [irun, hy, Option.bind_some, Option.bind_eq_some_iff] at hfront
      obtain ⟨σ1, h1, h2⟩ := hfront
      unfold stepG at h1
      rw [Option.bind_eq_some_iff] at h1
      obtain ⟨want, hw, h1⟩ := h1
      have hnd : (pre ++ i :: post).Nodup := hp.imp fun h => Nat.ne_of_lt h
      have hl' : ∀ j, j ∈ pre ++ post ↔ j < ops.size ∧ (listed.setIfInBounds i true).getD j true = false := by
        intro j
        have hq : (listed.setIfInBounds i true).getD j true = if j = i then true else listed.getD j true := by
          simp only [Array.getD_eq_getD_getElem?, Array.getElem?_setIfInBounds]
          by_cases h : j = i
          · subst h; simp [hsz, hi1]
          · have h' : ¬ i = j := fun e => h e.symm
            simp [h, h']
        rw [hq]
        have hni : i ∉ pre ++ post := by
          rw [List.nodup_append] at hnd
          intro hm
          rw [List.mem_append] at hm
          rcases hm with hm | hm
          · exact hnd.2.2 i hm i (List.mem_cons_self ..) rfl
          · exact (List.nodup_cons.1 hnd.2.1).1 hm
        by_cases h : j = i
        · subst h; simp [hni]
        · rw [if_neg h, ← hl j]; simp [h]
      have hlen' : (pre ++ post).length ≤ fuel := by simp only [List.length_append, List.length_cons] at hlen ⊢; omega
      have hp' : (pre ++ post).Pairwise (· < ·) := by
        rw [List.pairwise_append] at hp ⊢
        exact ⟨hp.1, (List.pairwise_cons.1 hp.2.1).2, fun a ha b hb => hp.2.2 a ha b (List.mem_cons_of_mem _ hb)⟩
      have hsz' : (listed.setIfInBounds i true).size = ops.size := by rw [Array.size_setIfInBounds]; exact hsz
      unfold wpOp
      rw [hy]
      simp only
      rw [wants_ok hs hw]
      have hmemo : ops[i] ∈ ops.toList := by simp
      cases want with
      | true =>
        simp only [if_true] at h1 ⊢
        left
        refine hS _ hmemo σ σ1 h1 G w a _ _ hs fun G' a' w' hs' hF' hdf => ?_
        exact ih _ _ G' w' a' σ1 σ' hlen' hsz' hp' hl' hs' h2 fun G2 a2 w2 hs2 hF2 hdf2 => hQ G2 a2 w2 hs2 (hF'.trans hF2) (hdf2.trans hdf)
      | false =>
        simp only [Bool.false_eq_true, if_false, Option.some.injEq] at h1 ⊢
        subst h1
        have hs' := hs.put (hd _ hmemo) (v := .skp) (r := undef) fun _ _ => RA_skp
        refine ih _ _ G w _ _ σ' hlen' hsz' hp' hl' hs' h2 fun G2 a2 w2 hs2 hF2 hdf2 => hQ G2 a2 w2 hs2 hF2 (hdf2.trans ?_)
        cases ops[i].dst <;> rfl

end Go.Ev
