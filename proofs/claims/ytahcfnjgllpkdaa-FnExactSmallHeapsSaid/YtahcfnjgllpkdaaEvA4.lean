import Derived.Test.YtahcfnjgllpkdaaEvA3
set_option linter.unusedSimpArgs false
set_option linter.unusedVariables false
set_option linter.unnecessarySimpa false
namespace Go.Ev

theorem a_dst {g : Cfg} {d f : Nat} {o : Oper} {σ : St} {r : AV × St} (hc : clsOf g f o = .a) (h : opE g d f o σ = some r) : o.dst.isSome = true := by
  obtain ⟨dst, op, ty, pos, after, guard⟩ := o
  cases op with
  | alloc e =>
    simp only [opE, bind, Option.bind_eq_some_iff] at h
    obtain ⟨i, hi, t, rfl, h⟩ := h
    rfl
  | box e x =>
    simp only [opE, bind, Option.bind_eq_some_iff] at h
    obtain ⟨i, hi, t, rfl, h⟩ := h
    rfl
  | load t a => simp only [clsOf] at hc; split at hc <;> cases hc
  | makeSlice mt l c =>
    simp only [clsOf] at hc
    split at hc
    · rename_i htk
      simp only [opE, bind, Option.bind_eq_some_iff] at h
      obtain ⟨i, hi, e, he, ei, hei, n, hn, cp, hcp, h⟩ := h
      split at h
      · cases h
      · split at h
        · simp only [Option.bind_eq_some_iff] at h
          obtain ⟨t, rfl, _⟩ := h
          rfl
        · cases h
    · cases hc
  | call cl =>
    obtain ⟨callee, args, argTypes⟩ := cl
    exfalso
    cases callee with
    | value x =>
      cases x with
      | func k => simp only [clsOf] at hc; split at hc <;> cases hc
      | _ => simp [clsOf] at hc
    | _ => simp [clsOf] at hc
  | _ => simp [clsOf] at hc

def LocalW (S : St → Option St) (R W : List Nat) (c : Cls) (key : Key) (σ σ1 : St) : Prop :=
  (∀ t, t ∉ W → σ1.env t = σ.env t) ∧ effM c key σ.mem σ1.mem ∧
    ∀ σ', (∀ t ∈ R, σ'.env t = σ.env t) → agreeM c key σ.mem σ'.mem → ∃ σ1', S σ' = some σ1' ∧ (∀ t ∈ W, σ1'.env t = σ1.env t) ∧ sameM c key σ1.mem σ1'.mem

theorem isV {op : Op} : (∃ x args argTypes, op = .call { callee := .value x, args, argTypes }) ∨ (∀ x args argTypes, op ≠ .call { callee := .value x, args, argTypes }) := by
  cases op with
  | call c =>
    obtain ⟨callee, args, at_⟩ := c
    cases callee with
    | value x => exact .inl ⟨x, args, at_, rfl⟩
    | _ => right; intro x args at_ h; cases h
  | _ => right; intro x args at_ h; cases h

theorem stepW_op {call : Nat → List AV → Mem → Option (AV × Mem)} {g : Cfg} {d f : Nat} {o : Oper} {σ : St} (h : ∀ x args argTypes, o.op ≠ .call { callee := .value x, args, argTypes }) :
    stepW call g d f o σ = (opE g d f o σ).bind fun vs => some { vs.2 with env := putD vs.2.env o.dst vs.1 } := by
  unfold stepW
  split
  · rename_i hh; exact absurd hh (h _ _ _)
  · rfl

theorem stepW_call {call : Nat → List AV → Mem → Option (AV × Mem)} {g : Cfg} {d f : Nat} {o : Oper} {σ : St} {x : Operand} {args : Array Operand} {argTypes : Array TypeId} (h : o.op = .call { callee := .value x, args, argTypes }) :
    stepW call g d f o σ = (calleeOf σ.env x).bind fun kc =>
    (call kc.1 (args.toList.map (fun y => (opnd σ.env y).copy) ++ kc.2) σ.mem).bind fun rm => some { env := putD σ.env o.dst rm.1, mem := rm.2 } := by
  unfold stepW
  rw [h]

theorem stepW_local (g : Cfg) (n d f : Nat) (ops : Array Oper) (o : Oper) {σ σ1 : St} (h : stepW (callN g n d) g d f o σ = some σ1) :
    LocalW (stepW (callN g n d) g d f o) (readsOf ops o) (writesOf g f o) (clsOf g f o) (d, o.dst.getD 0) σ σ1 := by
  rcases isV (op := o.op) with ⟨x, args, argTypes, ho⟩ | hne
  · have hall : ∀ σ' : St, (∀ t ∈ readsOf ops o, σ'.env t = σ.env t) → opnd σ'.env x = opnd σ.env x ∧ ∀ y ∈ args.toList, opnd σ'.env y = opnd σ.env y := by
      intro σ' hR
      refine ⟨opnd_eq hR (by rw [ho]; simp [Op.operands, Call.operands]), fun y hy => opnd_eq hR ?_⟩
      rw [ho]
      simp only [Op.operands, Call.operands]
      exact Array.mem_append_right _ (by simpa using hy)
    have hW : writesOf g f o = o.dst.toList := by unfold writesOf; rw [ho]; simp
    rw [stepW_call ho] at h
    rw [Option.bind_eq_some_iff] at h
    obtain ⟨kc, hkc, h⟩ := h
    rw [Option.bind_eq_some_iff] at h
    obtain ⟨rm, hrm, h⟩ := h
    simp only [Option.some.injEq] at h
    subst h
    have hput : ∀ t, t ∉ writesOf g f o → putD σ.env o.dst rm.1 t = σ.env t := fun t ht => putD_out fun e => ht (by rw [hW, e]; simp)
    have hput2 : ∀ (e e' : Nat → AV) t, t ∈ writesOf g f o → putD e' o.dst rm.1 t = putD e o.dst rm.1 t := fun e e' t ht => by
      rw [hW] at ht
      cases hd : o.dst with
      | none => rw [hd] at ht; simp at ht
      | some u => rw [hd] at ht; simp at ht; subst ht; simp [putD, upd]
    by_cases hcx : ∃ k F, x = .func k ∧ lookN k g.ctx = some F
    · obtain ⟨k, F, rfl, hF⟩ := hcx
      have hcls : clsOf g f o = .p := by unfold clsOf; rw [ho]; simp [hF]
      have hkc' : kc = (k, []) := (Option.some.inj hkc).symm
      subst hkc'
      have hk0 : ∀ e, calleeOf e (.func k) = some (k, []) := fun _ => rfl
      cases n with
      | zero => simp only [callN] at hrm; cases hrm
      | succ n =>
        simp only [callN, hF, List.append_nil] at hrm
        rw [Option.bind_eq_some_iff] at hrm
        obtain ⟨la, hla, hrm⟩ := hrm
        rw [Option.bind_eq_some_iff] at hrm
        obtain ⟨r, hr, hrm⟩ := hrm
        split at hrm
        · rename_i hc
          simp only [Option.some.injEq] at hrm
          subst hrm
          refine ⟨hput, by rw [hcls]; rfl, fun σ' hR _ => ⟨{ σ' with env := putD σ'.env o.dst r }, ?_, fun t ht => hput2 _ _ t ht, by rw [hcls]; trivial⟩⟩
          have ha : args.toList.map (fun y => (opnd σ'.env y).copy) = args.toList.map (fun y => (opnd σ.env y).copy) := List.map_congr_left fun y hy => by rw [(hall σ' hR).2 y hy]
          rw [stepW_call ho]
          rw [hk0]
          simp only [Option.bind_some, List.append_nil, callN, hF]
          rw [ha, hla]
          simp only [Option.bind_some, hr]
          rw [if_pos hc]
          rfl
        · cases hrm
    · have hcls : clsOf g f o = .m := by
        unfold clsOf
        rw [ho]
        cases x with
        | func k =>
          cases hl : lookN k g.ctx with
          | none => simp [hl]
          | some F => exact absurd ⟨k, F, rfl, hl⟩ hcx
        | _ => rfl
      refine ⟨hput, by rw [hcls]; trivial, fun σ' hR hA => ?_⟩
      rw [hcls] at hA
      have hm : σ'.mem = σ.mem := hA
      refine ⟨{ env := putD σ'.env o.dst rm.1, mem := rm.2 }, ?_, fun t ht => hput2 _ _ t ht, by rw [hcls]; rfl⟩
      have ha : args.toList.map (fun y => (opnd σ'.env y).copy) = args.toList.map (fun y => (opnd σ.env y).copy) := List.map_congr_left fun y hy => by rw [(hall σ' hR).2 y hy]
      have hk : calleeOf σ'.env x = some kc := by unfold calleeOf at hkc ⊢; rw [(hall σ' hR).1]; exact hkc
      rw [stepW_call ho, hk]
      simp only [Option.bind_some]
      rw [ha, hm, hrm]
      rfl
  · rw [stepW_op hne] at h
    rw [Option.bind_eq_some_iff] at h
    obtain ⟨⟨v, σ2⟩, hv, h⟩ := h
    simp only [Option.some.injEq] at h
    subst h
    obtain ⟨h1, h2, h3⟩ := opE_local g d f ops o hv
    refine ⟨fun t ht => ?_, h2, fun σ' hR hA => ?_⟩
    · rw [writes_eq, List.mem_append, not_or] at ht
      show putD σ2.env o.dst v t = σ.env t
      rw [putD_out fun e => ht.1 (by rw [e]; simp)]
      exact h1 t ht.2
    · obtain ⟨σ1', a1, a2, a3⟩ := h3 σ' hR hA
      refine ⟨{ σ1' with env := putD σ1'.env o.dst v }, by rw [stepW_op hne, a1]; rfl, fun t ht => ?_, a3⟩
      rw [writes_eq, List.mem_append] at ht
      show putD σ1'.env o.dst v t = putD σ2.env o.dst v t
      by_cases hd : o.dst = some t
      · rw [hd]; simp [putD, upd]
      · rw [putD_out hd, putD_out hd]
        refine a2 t (ht.resolve_left fun hh => hd ?_)
        cases hdd : o.dst with
        | none => rw [hdd] at hh; simp at hh
        | some u => rw [hdd] at hh; simp at hh; rw [hh]

theorem takes_reads {g : Cfg} {f : Nat} {ops : Array Oper} {o : Oper} {t : Nat} (h : t ∈ takesOf g f o) : t ∈ readsOf ops o := by
  unfold takesOf at h
  unfold readsOf
  refine List.mem_append_left _ ?_
  dsimp only at h
  split at h
  · split at h
    · exact h
    · cases h
  all_goals first | exact h | cases h

/-- one step of a region, the guard's answer fixed -/
def stepB (S : Oper → St → Option St) (ops : Array Oper) (o : Oper) (b : Bool) (σ : St) : Option St :=
  if wants ops σ.env o = some b then (if b then S o σ else some { σ with env := putD σ.env o.dst .skp }) else none

theorem stepG_iff {S : Oper → St → Option St} {ops : Array Oper} {o : Oper} {σ σ1 : St} : stepG S ops o σ = some σ1 ↔ ∃ b, stepB S ops o b σ = some σ1 := by
  unfold stepG stepB
  constructor
  · intro h
    rw [Option.bind_eq_some_iff] at h
    obtain ⟨b, hb, h⟩ := h
    exact ⟨b, by rw [if_pos hb]; exact h⟩
  · rintro ⟨b, h⟩
    split at h
    · rename_i hb; rw [hb]; exact h
    · cases h

def clsB (g : Cfg) (f : Nat) (o : Oper) (b : Bool) : Cls := if b then clsOf g f o else .p

theorem stepB_local (g : Cfg) (n d f : Nat) (ops : Array Oper) (o : Oper) (b : Bool) : Local (stepB (stepW (callN g n d) g d f) ops o b) (readsOf ops o) (writesOf g f o) (clsB g f o b) (d, o.dst.getD 0) := by
  have key : ∀ σ σ1, stepB (stepW (callN g n d) g d f) ops o b σ = some σ1 → LocalW (stepB (stepW (callN g n d) g d f) ops o b) (readsOf ops o) (writesOf g f o) (clsB g f o b) (d, o.dst.getD 0) σ σ1 := by
    intro σ σ1 h
    unfold stepB at h
    split at h
    · rename_i hb
      cases b with
      | true =>
        simp only [if_true] at h
        obtain ⟨h1, h2, h3⟩ := stepW_local g n d f ops o h
        refine ⟨h1, h2, fun σ' hR hA => ?_⟩
        obtain ⟨σ1', a1, a2, a3⟩ := h3 σ' hR hA
        refine ⟨σ1', ?_, a2, a3⟩
        unfold stepB
        rw [wants_eq hR, if_pos hb]
        exact a1
      | false =>
        simp only [Bool.false_eq_true, if_false, Option.some.injEq] at h
        subst h
        refine ⟨fun t ht => putD_out fun e => ht (by rw [writes_eq, e]; simp), rfl, fun σ' hR _ => ⟨{ σ' with env := putD σ'.env o.dst .skp }, ?_, fun t ht => ?_, trivial⟩⟩
        · unfold stepB
          rw [wants_eq hR, if_pos hb]
          rfl
        · show putD σ'.env o.dst .skp t = putD σ.env o.dst .skp t
          rw [writes_eq, List.mem_append] at ht
          by_cases hd : o.dst = some t
          · rw [hd]; simp [putD, upd]
          · rw [putD_out hd, putD_out hd]
            have ht2 := ht.resolve_left fun hh => hd (by
              cases hdd : o.dst with
              | none => rw [hdd] at hh; simp at hh
              | some u => rw [hdd] at hh; simp at hh; rw [hh])
            exact hR t (takes_reads ht2)
    · cases h
  exact ⟨fun σ σ1 h => (key σ σ1 h).1, fun σ σ1 h => (key σ σ1 h).2.1, fun σ σ1 σ' h => (key σ σ1 h).2.2 σ'⟩

theorem stepB_a {g : Cfg} {n d f : Nat} {ops : Array Oper} {o : Oper} {b : Bool} {σ σ1 : St} (hc : clsB g f o b = .a) (h : stepB (stepW (callN g n d) g d f) ops o b σ = some σ1) : o.dst.isSome = true := by
  cases b with
  | false => cases hc
  | true =>
    have hc : clsOf g f o = .a := hc
    unfold stepB at h
    split at h
    · simp only [if_true] at h
      have hne : ∀ x args argTypes, o.op ≠ .call { callee := .value x, args, argTypes } := by
        intro x args at_ ho
        unfold clsOf at hc
        rw [ho] at hc
        cases x with
        | func k => simp only at hc; split at hc <;> cases hc
        | _ => cases hc
      rw [stepW_op hne, Option.bind_eq_some_iff] at h
      obtain ⟨vs, hv, _⟩ := h
      exact a_dst hc hv
    · cases h

theorem disj_spec {a b : List Nat} (h : disj a b = true) {t : Nat} (ha : t ∈ a) : t ∉ b := by
  unfold disj at h
  rw [List.all_eq_true] at h
  have := h t ha
  simpa using this

theorem clsB_ok {g : Cfg} {f : Nat} {x y : Oper} (h : clsOK (clsOf g f x) (clsOf g f y) = true) (bx by_ : Bool) : clsOK (clsB g f x bx) (clsB g f y by_) = true := by
  cases bx with
  | false => cases hh : clsB g f y by_ <;> rfl
  | true =>
    cases by_ with
    | false => show clsOK (clsOf g f x) .p = true; cases clsOf g f x <;> rfl
    | true => exact h

theorem stepG_swap {g : Cfg} {n d f : Nat} {ops : Array Oper} {x y : Oper} (h : comm g f ops x y = true) {σ σ1 σ2 : St} (h1 : stepG (stepW (callN g n d) g d f) ops x σ = some σ1) (h2 : stepG (stepW (callN g n d) g d f) ops y σ1 = some σ2) :
    ∃ σ1', stepG (stepW (callN g n d) g d f) ops y σ = some σ1' ∧ stepG (stepW (callN g n d) g d f) ops x σ1' = some σ2 := by
  simp only [comm, Bool.and_eq_true] at h
  obtain ⟨⟨⟨c1, c2⟩, c3⟩, c4⟩ := h
  obtain ⟨bx, h1⟩ := stepG_iff.1 h1
  obtain ⟨by_, h2⟩ := stepG_iff.1 h2
  obtain ⟨σ1', a1, a2⟩ := swap (stepB_local g n d f ops x bx) (stepB_local g n d f ops y by_) (fun t ht => disj_spec c1 ht) (fun t ht => disj_spec c2 ht) (fun t ht => disj_spec c3 ht) (clsB_ok c4 bx by_)
    (fun hx hy hk => by
      have e1 := stepB_a hx h1
      have e2 := stepB_a hy h2
      cases hdx : x.dst with
      | none => rw [hdx] at e1; cases e1
      | some t =>
        cases hdy : y.dst with
        | none => rw [hdy] at e2; cases e2
        | some u =>
          rw [hdx, hdy] at hk
          simp at hk
          subst hk
          exact disj_spec c2 (t := t) (by rw [writes_eq, hdx]; simp) (by rw [writes_eq, hdy]; simp)) h1 h2
  exact ⟨σ1', stepG_iff.2 ⟨by_, a1⟩, stepG_iff.2 ⟨bx, a2⟩⟩

def irun (S : Oper → St → Option St) (ops : Array Oper) : List Nat → St → Option St
  | [], σ => some σ
  | i :: r, σ => (ops[i]?).bind fun o => (stepG S ops o σ).bind (irun S ops r)

theorem irun_range (S : Oper → St → Option St) (ops : Array Oper) : ∀ (k i : Nat), i + k = ops.size → ∀ σ, irun S ops (List.range' i k) σ = arun S ops (ops.toList.drop i) σ
  | 0, i, hi, σ => by
    rw [List.drop_eq_nil_of_le (by rw [Array.length_toList]; omega)]
    rfl
  | k + 1, i, hi, σ => by
    have hlt : i < ops.toList.length := by rw [Array.length_toList]; omega
    rw [List.drop_eq_getElem_cons hlt, List.range'_succ]
    have ho : ops[i]? = some ops.toList[i] := by rw [← Array.getElem?_toList]; exact List.getElem?_eq_getElem hlt
    simp only [irun, ho, arun, Option.bind_some]
    congr 1
    funext σ'
    exact irun_range S ops k (i + 1) (by omega) σ'

def commI (g : Cfg) (f : Nat) (ops : Array Oper) (j i : Nat) : Prop := ∀ x y, ops[j]? = some x → ops[i]? = some y → comm g f ops x y = true

theorem irun_front {g : Cfg} {n d f : Nat} {ops : Array Oper} {i : Nat} {post : List Nat} : ∀ (pre : List Nat) (σ σ' : St), (∀ j ∈ pre, commI g f ops j i) →
    irun (stepW (callN g n d) g d f) ops (pre ++ i :: post) σ = some σ' → irun (stepW (callN g n d) g d f) ops (i :: (pre ++ post)) σ = some σ'
  | [], σ, σ', _, h => h
  | j :: pre, σ, σ', hc, h => by
    simp only [List.cons_append, irun, Option.bind_eq_some_iff] at h
    obtain ⟨x, hx, σ1, h1, h2⟩ := h
    have ih := irun_front pre σ1 σ' (fun k hk => hc k (List.mem_cons_of_mem _ hk)) h2
    simp only [irun, Option.bind_eq_some_iff] at ih
    obtain ⟨y, hy, σ2, h3, h4⟩ := ih
    obtain ⟨σ1', a1, a2⟩ := stepG_swap (hc j (List.mem_cons_self ..) x y hx hy) h1 h3
    simp only [List.cons_append, irun, Option.bind_eq_some_iff]
    exact ⟨y, hy, σ1', a1, x, hx, σ2, a2, h4⟩

/-- whatever order is drawn -/
theorem wpAny_run {P : Program} {g : Cfg} {n d f N : Nat} {ops : Array Oper} {Q : Exit → Act → World → Prop} (hS : ∀ o ∈ ops.toList, ∀ σ σ', stepW (callN g n d) g d f o σ = some σ' → StepOK P d N o σ σ')
    (hd : ∀ o ∈ ops.toList, o.dst.all (· < N) = true) (hok : regionOK g f ops = true) : ∀ (fuel : Nat) (rem : List Nat) (listed : Array Bool) (G : Gh) (w : World) (a : Act) (σ σ' : St), rem.length ≤ fuel → listed.size = ops.size → rem.Pairwise (· < ·) →
    (∀ i, i ∈ rem ↔ i < ops.size ∧ listed.getD i true = false) → Sim d N G σ a.tmps w → irun (stepW (callN g n d) g d f) ops rem σ = some σ' →
    (∀ G' a' w', Sim d N G' σ' a'.tmps w' → Frm d G w G' w' → a'.defers = a.defers → Q .normal a' w') → wpAny P .any ops Q fuel listed a w := by
  have hreg : ∀ i y, ops[i]? = some y → (∀ e ∈ y.after, Region.binds .any e = true → e.on < i) ∧ ∀ j x, j < i → ops[j]? = some x → (∃ e ∈ y.after, e.on = j ∧ Region.binds .any e = true) ∨ comm g f ops x y = true := by
    intro i y hy
    have hi : i < ops.size := (Array.getElem?_eq_some_iff.1 hy).1
    unfold regionOK at hok
    rw [List.all_eq_true] at hok
    have := hok i (List.mem_range.2 hi)
    rw [hy] at this
    simp only [Bool.and_eq_true] at this
    obtain ⟨t1, t2⟩ := this
    refine ⟨fun e he hb => ?_, fun j x hj hx => ?_⟩
    · rw [Array.all_eq_true_iff_forall_mem] at t1
      have := t1 e he
      rw [hb] at this
      simpa using this
    · rw [List.all_eq_true] at t2
      have := t2 j (List.mem_range.2 hj)
      rw [hx] at this
      simp only [Bool.or_eq_true] at this
      rcases this with h | h
      · left
        rw [Array.any_eq_true] at h
        obtain ⟨q, hq, h⟩ := h
        simp only [Bool.and_eq_true, beq_iff_eq] at h
        exact ⟨_, Array.getElem_mem hq, h.1, h.2⟩
      · exact .inr h
  intro fuel
  induction fuel with
  | zero =>
    intro rem listed G w a σ σ' hlen hsz hp hl hs hr hQ
    have : rem = [] := List.length_eq_zero_iff.1 (by omega)
    subst this
    simp only [irun, Option.some.injEq] at hr
    subst hr
    refine ⟨?_, hQ G a w hs (Frm.refl _ _ _) rfl⟩
    unfold Region.ready
    rw [List.filter_eq_nil_iff]
    intro i hi hh
    simp only [Bool.and_eq_true, Bool.not_eq_true'] at hh
    have := (hl i).2 ⟨List.mem_range.1 hi, hh.1⟩
    cases this
  | succ fuel ih =>
    intro rem listed G w a σ σ' hlen hsz hp hl hs hr hQ
    refine ⟨fun hnil => ?_, fun i hi => ?_⟩
    · cases rem with
      | nil =>
        simp only [irun, Option.some.injEq] at hr
        subst hr
        exact hQ G a w hs (Frm.refl _ _ _) rfl
      | cons i rem =>
        exfalso
        have hi := (hl i).1 (List.mem_cons_self ..)
        have hready : i ∈ Region.ready .any ops listed := by
          unfold Region.ready
          rw [List.mem_filter]
          refine ⟨List.mem_range.2 hi.1, ?_⟩
          have hy : ops[i]? = some ops[i] := Array.getElem?_eq_getElem hi.1
          rw [hy, hi.2]
          simp only [Option.map_some, Option.getD_some, Bool.not_false, Bool.true_and]
          rw [Array.all_eq_true_iff_forall_mem]
          intro e he
          cases hb : Region.binds .any e with
          | false => rfl
          | true =>
            have hlt := (hreg i _ hy).1 e he hb
            simp only [Bool.not_true, Bool.false_or]
            cases hle : listed.getD e.on false with
            | true => rfl
            | false =>
              have hlt2 : e.on < ops.size := by omega
              have : listed.getD e.on true = false := by
                rw [Array.getD_eq_getD_getElem?] at hle ⊢
                rw [Array.getElem?_eq_getElem (by omega)] at hle ⊢
                exact hle
              have hmem := (hl e.on).2 ⟨hlt2, this⟩
              rw [List.pairwise_cons] at hp
              cases hmem with
              | head => omega
              | tail _ hm => have := hp.1 _ hm; omega
        rw [hnil] at hready
        cases hready
    · unfold Region.ready at hi
      rw [List.mem_filter] at hi
      obtain ⟨hi1, hi2⟩ := hi
      have hi1 := List.mem_range.1 hi1
      simp only [Bool.and_eq_true, Bool.not_eq_true'] at hi2
      have hy : ops[i]? = some ops[i] := Array.getElem?_eq_getElem hi1
      obtain ⟨hi2, hi3⟩ := hi2
      rw [hy] at hi3
      simp only [Option.map_some, Option.getD_some] at hi3
      rw [Array.all_eq_true_iff_forall_mem] at hi3
      have hmem := (hl i).2 ⟨hi1, hi2⟩
      obtain ⟨pre, post, rfl⟩ := List.append_of_mem hmem
      have hfront := irun_front pre σ σ' (fun j hj => by
        intro x y hx hy'
        rw [hy] at hy'
        cases hy'
        have hji : j < i := by
          rw [List.pairwise_append] at hp
          exact hp.2.2 j hj i (List.mem_cons_self ..)
        rcases (hreg i _ hy).2 j x hji hx with ⟨e, he, rfl, hb⟩ | h
        · exfalso
          have h3 := hi3 e he
          rw [hb] at h3
          simp only [Bool.not_true, Bool.false_or] at h3
          have := ((hl e.on).1 (List.mem_append_left _ hj))
          rw [Array.getD_eq_getD_getElem?] at h3 this
          rw [Array.getElem?_eq_getElem (by omega)] at h3
          rw [Array.getElem?_eq_getElem (by omega)] at this
          simp only [Option.getD_some] at h3 this
          rw [this.2] at h3
          cases h3
        · exact h) hr
      simp only [irun, hy, Option.bind_some, Option.bind_eq_some_iff] at hfront
      obtain ⟨σ1, h1, h2⟩ := hfront
      unfold stepG at h1
      rw [Option.bind_eq_some_iff] at h1
      obtain ⟨want, hw, h1⟩ := h1
      have hnd : (pre ++ i :: post).Nodup := hp.imp fun h => Nat.ne_of_lt h
      have hl' : ∀ j, j ∈ pre ++ post ↔ j < ops.size ∧ (listed.setIfInBounds i true).getD j true = false := by
        intro j
        have hq : (listed.setIfInBounds i true).getD j true = if j = i then true else listed.getD j true := by
          simp only [Array.getD_eq_getD_getElem?, Array.getElem?_setIfInBounds]
          by_cases h : j = i
          · subst h; simp [hsz, hi1]
          · have h' : ¬ i = j := fun e => h e.symm
            simp [h, h']
        rw [hq]
        have hni : i ∉ pre ++ post := by
          rw [List.nodup_append] at hnd
          intro hm
          rw [List.mem_append] at hm
          rcases hm with hm | hm
          · exact hnd.2.2 i hm i (List.mem_cons_self ..) rfl
          · exact (List.nodup_cons.1 hnd.2.1).1 hm
        by_cases h : j = i
        · subst h; simp [hni]
        · rw [if_neg h, ← hl j]; simp [h]
      have hlen' : (pre ++ post).length ≤ fuel := by simp only [List.length_append, List.length_cons] at hlen ⊢; omega
      have hp' : (pre ++ post).Pairwise (· < ·) := by
        rw [List.pairwise_append] at hp ⊢
        exact ⟨hp.1, (List.pairwise_cons.1 hp.2.1).2, fun a ha b hb => hp.2.2 a ha b (List.mem_cons_of_mem _ hb)⟩
      have hsz' : (listed.setIfInBounds i true).size = ops.size := by rw [Array.size_setIfInBounds]; exact hsz
      unfold wpOp
      rw [hy]
      simp only
      rw [wants_ok hs hw]
      have hmemo : ops[i] ∈ ops.toList := by simp
      cases want with
      | true =>
        simp only [if_true] at h1 ⊢
        left
        refine hS _ hmemo σ σ1 h1 G w a _ _ hs fun G' a' w' hs' hF' hdf => ?_
        exact ih _ _ G' w' a' σ1 σ' hlen' hsz' hp' hl' hs' h2 fun G2 a2 w2 hs2 hF2 hdf2 => hQ G2 a2 w2 hs2 (hF'.trans hF2) (hdf2.trans hdf)
      | false =>
        simp only [Bool.false_eq_true, if_false, Option.some.injEq] at h1 ⊢
        subst h1
        have hs' := hs.put (hd _ hmemo) (v := .skp) (r := undef) fun _ _ => RA_skp
        refine ih _ _ G w _ _ σ' hlen' hsz' hp' hl' hs' h2 fun G2 a2 w2 hs2 hF2 hdf2 => hQ G2 a2 w2 hs2 hF2 (hdf2.trans ?_)
        cases ops[i].dst <;> rfl

end Go.Ev

namespace Go.Ev

/-- a contract: called with data that reads as 'args' (nothing owned), f returns what reads as F's answer; nothing that was there is changed -/
def PC (P : Program) (f : Nat) (F : List AV → Option AV) : Prop := Enters P f ∧ ∀ args r, F args = some r → ∀ (G : Gh) (w : World) (vals : Array Value),
  (∀ b t, G.own b = some t → t = .foreign ∧ b < w.heap.size) → (∀ k, ¬ G.live k) → (∀ b, G.age b = 0) → ArgsOK w G args vals →
  Calls P f vals w fun e w' => ∃ v G', e = .returned v ∧ RA w' G' .ret r v ∧ w.heap.size ≤ w'.heap.size ∧ Kept w w' ∧
    (∀ b, b < w.heap.size → w'.heap[b]? = w.heap[b]? ∧ G'.own b = G.own b ∧ G'.use b = G.use b) ∧ ∀ b t, G'.own b = some t → b < w'.heap.size

-- lent: all is read as shared
mutual
theorem RD_lend {w : World} {G G0 : Gh} {o o' : Ow} (hu : ∀ b, G.use b ≤ G0.use b) : ∀ {d : D} {m : Md} {p p' : List Nat} {v : Value}, (∀ b, G0.own b = none) → RD w G o m p d v → RD w G0 o' .shr p' d v
  | .sc x, m, p, p', v, _, hr => by rw [RD] at hr ⊢; exact hr
  | .sl n cs, m, p, p', v, hn0, hr => by
    rw [RD] at hr ⊢
    rcases hr with ⟨h1, h2, a, cap, hv, _⟩ | ⟨h1, h2, b, off, cap, hv, hc, hn, hs⟩
    · exact .inl ⟨h1, h2, a, cap, hv, by simp [Md.isOwn]⟩
    · exact .inr ⟨h1, h2, b, off, cap, hv, hc, ⟨hn0 b, Nat.le_trans (use_of_node hn) (hu b)⟩, RDs_lend hu hn0 hs⟩
theorem RDs_lend {w : World} {G G0 : Gh} {o o' : Ow} (hu : ∀ b, G.use b ≤ G0.use b) : ∀ {cs : List D} {m : Md} {p p' : List Nat} {b off i : Nat}, (∀ b, G0.own b = none) → RDs w G o m p b off i cs → RDs w G0 o' .shr p' b off i cs
  | [], m, p, p', b, off, i, _, _ => by rw [RDs]; trivial
  | d :: ds, m, p, p', b, off, i, hn0, hr => by
    rw [RDs] at hr ⊢
    obtain ⟨⟨v, hv, hd⟩, hr⟩ := hr
    exact ⟨⟨v, hv, RD_lend hu hn0 hd⟩, RDs_lend hu hn0 hr⟩
end

-- what is shared stays shared under another account
mutual
theorem RD_shr {w : World} {G G0 : Gh} {o o' : Ow} (hn : ∀ b, G.own b = none → G0.own b = none ∧ G.use b ≤ G0.use b) : ∀ {d : D} {p p' : List Nat} {v : Value}, RD w G o .shr p d v → RD w G0 o' .shr p' d v
  | .sc x, p, p', v, hr => by rw [RD] at hr ⊢; exact hr
  | .sl n cs, p, p', v, hr => by
    rw [RD] at hr ⊢
    rcases hr with hr | ⟨h1, h2, b, off, cap, hv, hc, hnd, hs⟩
    · exact .inl hr
    · exact .inr ⟨h1, h2, b, off, cap, hv, hc, ⟨(hn b hnd.1).1, Nat.le_trans hnd.2 (hn b hnd.1).2⟩, RDs_shr hn hs⟩
theorem RDs_shr {w : World} {G G0 : Gh} {o o' : Ow} (hn : ∀ b, G.own b = none → G0.own b = none ∧ G.use b ≤ G0.use b) : ∀ {cs : List D} {p p' : List Nat} {b off i : Nat}, RDs w G o .shr p b off i cs → RDs w G0 o' .shr p' b off i cs
  | [], p, p', b, off, i, _ => by rw [RDs]; trivial
  | d :: ds, p, p', b, off, i, hr => by
    rw [RDs] at hr ⊢
    obtain ⟨⟨v, hv, hd⟩, hr⟩ := hr
    exact ⟨⟨v, hv, RD_shr hn hd⟩, RDs_shr hn hr⟩
end

-- what a callee hands back, read under the caller's account
mutual
theorem RD_mv {w : World} {G G0 : Gh} {o : Ow} (ht : ∀ b q, G.own b = some (.at o q) → G0.own b = some (.at o q) ∧ G0.use b = G.use b) : ∀ {d : D} {m : Md} {p : List Nat} {v : Value}, m ≠ .bor →
    (m = .own ∨ ∀ b, G.own b = none → G0.own b = none ∧ G.use b ≤ G0.use b) → RD w G o m p d v → RD w G0 o m p d v
  | .sc x, m, p, v, _, _, hr => by rw [RD] at hr ⊢; exact hr
  | .sl n cs, m, p, v, hm, hn, hr => by
    rw [RD] at hr ⊢
    rcases hr with hr | ⟨h1, h2, b, off, cap, hv, hc, hnd, hs⟩
    · exact .inl hr
    · refine .inr ⟨h1, h2, b, off, cap, hv, hc, ?_, RDs_mv ht (by cases m <;> simp_all [Md.elem]) (by
        rcases hn with rfl | hn
        · exact .inl rfl
        · exact .inr hn) hs⟩
      cases m with
      | own => exact ⟨(ht b _ hnd.1).1, by rw [(ht b _ hnd.1).2]; exact hnd.2.1, hnd.2.2⟩
      | top => exact ⟨(ht b _ hnd.1).1, by rw [(ht b _ hnd.1).2]; exact hnd.2.1, hnd.2.2⟩
      | shr =>
        rcases hn with h | hn
        · cases h
        · exact ⟨(hn b hnd.1).1, Nat.le_trans hnd.2 (hn b hnd.1).2⟩
      | bor => exact absurd rfl hm
theorem RDs_mv {w : World} {G G0 : Gh} {o : Ow} (ht : ∀ b q, G.own b = some (.at o q) → G0.own b = some (.at o q) ∧ G0.use b = G.use b) : ∀ {cs : List D} {m : Md} {p : List Nat} {b off i : Nat}, m ≠ .bor →
    (m = .own ∨ ∀ b, G.own b = none → G0.own b = none ∧ G.use b ≤ G0.use b) → RDs w G o m p b off i cs → RDs w G0 o m p b off i cs
  | [], m, p, b, off, i, _, _, _ => by rw [RDs]; trivial
  | d :: ds, m, p, b, off, i, hm, hn, hr => by
    rw [RDs] at hr ⊢
    obtain ⟨⟨v, hv, hd⟩, hr⟩ := hr
    exact ⟨⟨v, hv, RD_mv ht hm hn hd⟩, RDs_mv ht hm hn hr⟩
end

theorem RCs_map {w : World} {G G0 : Gh} {o o' : Ow} {p p' : List Nat} {i i' : Nat} {cs cs' : List C} {vs : List Value} {F : C → Option C} (h : RCs w G o p i cs vs) (hm : cs.mapM F = some cs')
    (hF : ∀ (j : Nat) c c' v, c ∈ cs → F c = some c' → RC w G o (p ++ [i + j]) c v → RC w G0 o' (p' ++ [i' + j]) c' v) : RCs w G0 o' p' i' cs' vs := by
  induction cs generalizing i i' cs' vs with
  | nil => simp at hm; subst hm; exact ⟨h.1, fun j c hj => by simp at hj⟩
  | cons c cs ih =>
    rw [List.mapM_cons] at hm
    simp only [bind, Option.bind_eq_some_iff, pure, Option.some.injEq] at hm
    obtain ⟨c', hc', cs2, hcs2, rfl⟩ := hm
    obtain ⟨hl, hr⟩ := h
    cases vs with
    | nil => simp at hl
    | cons v vs =>
      have ih' := ih (i := i + 1) (i' := i' + 1) (vs := vs) ⟨by simpa using hl, fun j c hj => by
        obtain ⟨x, hx, hrc⟩ := hr (j + 1) c hj
        exact ⟨x, hx, by rw [show i + 1 + j = i + (j + 1) by omega]; exact hrc⟩⟩ hcs2 (fun j c c' v hmem hf hrc => by
          have := hF (j + 1) c c' v (List.mem_cons_of_mem _ hmem) hf (by rw [show i + (j + 1) = i + 1 + j by omega]; exact hrc)
          rwa [show i' + (j + 1) = i' + 1 + j by omega] at this)
      refine ⟨by simp [ih'.1], fun j c0 hj => ?_⟩
      cases j with
      | zero =>
        simp at hj
        subst hj
        obtain ⟨x, hx, hrc⟩ := hr 0 c rfl
        exact ⟨x, hx, hF 0 c c' x (List.mem_cons_self ..) hc' hrc⟩
      | succ j =>
        obtain ⟨x, hx, hrc⟩ := ih'.2 j c0 hj
        exact ⟨x, hx, by rw [show i' + (j + 1) = i' + 1 + j by omega]; exact hrc⟩

theorem RA_lend {w : World} {G G0 : Gh} {o o' : Ow} {x y : AV} {v : Value} (hl : x.lend = some y) (h : RA w G o x v)
    (hc : (∀ b, G0.own b = none) ∧ (∀ b, G.use b ≤ G0.use b) ∨ x.shr? = true ∧ ∀ b, G.own b = none → G0.own b = none ∧ G.use b ≤ G0.use b) : RA w G0 o' y v := by
  have cell : ∀ (p p' : List Nat) c c' v, C.lend c = some c' → ((∀ b, G0.own b = none) ∧ (∀ b, G.use b ≤ G0.use b) ∨ c.shr? = true ∧ ∀ b, G.own b = none → G0.own b = none ∧ G.use b ≤ G0.use b) → RC w G o p c v → RC w G0 o' p' c' v := by
    intro p p' c c' v hcl hcc hr
    cases c with
    | s u => simp only [C.lend, Option.some.injEq] at hcl; subst hcl; exact hr
    | l m n cs =>
      simp only [C.lend, Option.some.injEq] at hcl
      subst hcl
      rcases hcc with ⟨h1, h2⟩ | ⟨h1, h2⟩
      · exact RD_lend h2 h1 hr
      · cases m <;> simp only [C.shr?, Bool.false_eq_true] at h1
        exact RD_shr h2 hr
    | _ => simp [C.lend] at hcl
  cases x with
  | one c =>
    simp only [AV.lend, Option.map_eq_some_iff] at hl
    obtain ⟨c', hcl, rfl⟩ := hl
    exact cell _ _ _ _ _ hcl (hc.imp id fun h => ⟨h.1, h.2⟩) h
  | ag cs =>
    simp only [AV.lend, Option.map_eq_some_iff] at hl
    obtain ⟨cs', hcl, rfl⟩ := hl
    obtain ⟨vs, hv, hr⟩ := h
    refine ⟨vs, hv, RCs_map hr hcl fun j c c' v hmem hf hrc => cell _ _ _ _ _ hf (hc.imp id fun h => ⟨?_, h.2⟩) hrc⟩
    have := h.1
    simp only [AV.shr?] at this
    rw [List.all_eq_true] at this
    exact this c hmem
  | tu vs => simp [AV.lend] at hl

theorem RA_res {w : World} {G G0 : Gh} {o : Ow} {x : AV} {v : Value} (h : RA w G o x v) (ht : ∀ b q, G.own b = some (.at o q) → G0.own b = some (.at o q) ∧ G0.use b = G.use b)
    (hc : x.own? = true ∨ x.data? = true ∧ ∀ b, G.own b = none → G0.own b = none ∧ G.use b ≤ G0.use b) : RA w G0 o x v := by
  have cell : ∀ (p : List Nat) c v, (c.own? = true ∨ c.data? = true ∧ ∀ b, G.own b = none → G0.own b = none ∧ G.use b ≤ G0.use b) → RC w G o p c v → RC w G0 o p c v := by
    intro p c v hcc hr
    cases c with
    | s u => exact hr
    | l m n cs =>
      refine RD_mv ht ?_ ?_ hr
      · rintro rfl; simp [C.own?, C.data?] at hcc
      · rcases hcc with h | h
        · left; cases m <;> simp_all [C.own?]
        · exact .inr h.2
    | _ => simp [C.own?, C.data?] at hcc
  have cells : ∀ (p : List Nat) cs vs, (cs.all C.own? = true ∨ cs.all C.data? = true ∧ ∀ b, G.own b = none → G0.own b = none ∧ G.use b ≤ G0.use b) → RCs w G o p 0 cs vs → RCs w G0 o p 0 cs vs := by
    intro p cs vs hcc hr
    refine ⟨hr.1, fun j c hj => ?_⟩
    obtain ⟨x, hx, hrc⟩ := hr.2 j c hj
    refine ⟨x, hx, cell _ _ _ (hcc.imp (fun h => ?_) fun h => ⟨?_, h.2⟩) hrc⟩
    · rw [List.all_eq_true] at h; exact h c (List.mem_of_getElem? hj)
    · have := h.1; rw [List.all_eq_true] at this; exact this c (List.mem_of_getElem? hj)
  cases x with
  | one c => exact cell _ _ _ hc h
  | ag cs =>
    obtain ⟨vs, hv, hr⟩ := h
    exact ⟨vs, hv, cells _ _ _ hc hr⟩
  | tu l =>
    obtain ⟨vs, hv, hz, hr⟩ := h
    refine ⟨vs, hv, hz, fun i b cs hi => ?_⟩
    obtain ⟨x, hx, hrc⟩ := hr i b cs hi
    have hcc : cs.all C.own? = true ∨ cs.all C.data? = true ∧ ∀ b, G.own b = none → G0.own b = none ∧ G.use b ≤ G0.use b := by
      refine hc.imp (fun h => ?_) fun h => ⟨?_, h.2⟩
      · simp only [AV.own?] at h; rw [List.all_eq_true] at h; exact h _ (List.mem_of_getElem? hi)
      · have := h.1; simp only [AV.data?] at this; rw [List.all_eq_true] at this; exact this _ (List.mem_of_getElem? hi)
    refine ⟨x, hx, ?_⟩
    cases b with
    | true =>
      obtain ⟨xs, hxs, hrc⟩ := hrc
      exact ⟨xs, hxs, cells _ _ _ hcc hrc⟩
    | false => exact cells _ _ _ hcc hrc

open Classical in
/-- a contract serves every caller -/
theorem PC.call {P : Program} {f : Nat} {F : List AV → Option AV} (h : PC P f F) {d : Nat} {args la : List AV} {mem : Mem} {r : AV} (hl : args.mapM AV.lend = some la) (hF : F la = some r)
    (hr : (r.own? || (r.data? && args.all AV.shr?)) = true) : CallOK P d f args mem mem r := by
  refine ⟨h.1, fun G w vals hA hM => ?_⟩
  obtain ⟨hml, hmg⟩ := mapM_get hl
  have key : ∀ G0 : Gh, (∀ b t, G0.own b = some t → t = .foreign ∧ b < w.heap.size) → (∀ k, ¬ G0.live k) → (∀ b, G0.age b = 0) → (∀ b, G0.use b = G.use b) →
      ((∀ b, G0.own b = none) ∧ r.own? = true ∨ args.all AV.shr? = true ∧ r.data? = true ∧ (∀ b, G.own b = none ↔ G0.own b = none)) →
      Calls P f vals w fun e w' => ∃ v G', e = .returned v ∧ RA w' G' .ret r v ∧ MemOK d G' mem w' ∧ Frm (d + 1) G w G' w' := by
    intro G0 hflat hlive hage huse hcase
    have hA0 : ArgsOK w G0 la vals := by
      refine ⟨by rw [hA.1, hml], fun i y hi => ?_⟩
      obtain ⟨x, hx, hxy⟩ := hmg i y hi
      obtain ⟨v, hv, hra⟩ := hA.2 i x hx
      refine ⟨v, hv, fun d t => RA_lend hxy (hra d t) ?_⟩
      rcases hcase with ⟨h1, _⟩ | ⟨h1, _, h2⟩
      · exact .inl ⟨h1, fun b => by rw [huse]; exact Nat.le_refl _⟩
      · refine .inr ⟨?_, fun b hb => ⟨(h2 b).1 hb, by rw [huse]; exact Nat.le_refl _⟩⟩
        rw [List.all_eq_true] at h1
        exact h1 x (List.mem_of_getElem? hx)
    refine (h.2 la r hF G0 w vals hflat hlive hage hA0).mono fun e w' he => ?_
    obtain ⟨v, G0', rfl, hRA, hsz, hkept, hold, hwf⟩ := he
    let own' : Nat → Option Tag := fun b => if b < w.heap.size then G.own b else match G0'.own b with
      | some (.at .ret p) => some (.at .ret p)
      | none => none
      | _ => some .foreign
    let G' : Gh := { own := own', use := G0'.use, β := G.β, live := G.live, age := G.age, cap := G.cap }
    have ho : ∀ b, b < w.heap.size → G'.own b = G.own b := fun b hb => by show own' b = _; simp only [own', hb, if_true]
    have hu : ∀ b, b < w.heap.size → G'.use b = G.use b := fun b hb => by show G0'.use b = _; rw [(hold b hb).2.2, huse]
    have hnew : ∀ b t, G'.own b = some t → ¬ b < w.heap.size → b < w'.heap.size ∧ (∀ k, t ≠ .box k) ∧ (∀ k p, t ≠ .at (.cell k) p) ∧ t.dep d ≤ d := by
      intro b t hb hlt
      have hb : own' b = some t := hb
      simp only [own', hlt, if_false] at hb
      cases hg : G0'.own b with
      | none => rw [hg] at hb; cases hb
      | some t0 =>
        refine ⟨hwf b t0 hg, ?_⟩
        rw [hg] at hb
        split at hb
        · cases hb; exact ⟨fun k => by simp, fun k p => by simp, Nat.le_refl d⟩
        · cases hb
        · cases hb; exact ⟨fun k => by simp, fun k p => by simp, Nat.zero_le d⟩
    have hF' : Frm (d + 1) G w G' w' := {
      size := hsz
      kept := hkept
      same := fun b hb _ => ⟨(hold b hb).1, ho b hb, hu b hb⟩
      age := fun _ _ _ => rfl
      box := fun b hb _ hk => by rw [ho b hb]; exact hk
      use := fun b hb _ => by rw [hu b hb]; exact Nat.le_refl _
      cell := fun b off hb _ _ _ => by unfold World.cell?; simp only [(hold b hb).1]
      live := fun k hk _ => ⟨hk, rfl, rfl⟩ }
    refine ⟨v, G', rfl, RA_res hRA (fun b q hq => ?_) ?_, ?_, hF'⟩
    · have hb : ¬ b < w.heap.size := fun hb => by
        rw [(hold b hb).2.1] at hq
        have := (hflat b _ hq).1
        cases this
      exact ⟨by show own' b = _; simp only [own', hb, if_false, hq], rfl⟩
    · rcases hcase with ⟨_, h2⟩ | ⟨_, h2, h3⟩
      · exact .inl h2
      · refine .inr ⟨h2, fun b hb => ⟨?_, Nat.le_refl _⟩⟩
        by_cases hlt : b < w.heap.size
        · rw [ho b hlt, h3 b, ← (hold b hlt).2.1]; exact hb
        · show own' b = none
          simp only [own', hlt, if_false, hb]
    · have hH : ∀ o p, Hands w G w' G' o p o p fun _ => false := fun o p => {
        tag := fun b q hb ht => ⟨by rw [ho b hb]; exact ht, hu b hb, (hold b hb).1⟩
        nil := fun b hb hn => by rw [ho b hb]; exact hn
        box := fun b hb hk => by rw [ho b hb]; exact hk
        use := fun b hb _ => by rw [hu b hb]; exact Nat.le_refl _
        cell := fun b off hb _ _ => by unfold World.cell?; simp only [(hold b hb).1]
        live := fun k hk _ => ⟨hk, rfl, rfl⟩ }
      exact {
        cells := fun k cs hk hn2 => by
          obtain ⟨arr, e, h1, h2, h2c, h3⟩ := hM.cells k cs hk hn2
          have hb := hM.wf _ _ h2
          exact ⟨arr, e, by rw [← h1]; exact (hold _ hb).1, by rw [← h2]; exact ho _ hb, h2c, (hH _ _).rcs0 h3⟩
        live := hM.live
        dep := hM.dep
        wf := fun b t hb => by
          by_cases hlt : b < w.heap.size
          · omega
          · exact (hnew b t hb hlt).1
        wfb := fun b k hb => by
          by_cases hlt : b < w.heap.size
          · rw [ho b hlt] at hb; exact hM.wfb b k hb
          · exact absurd rfl ((hnew b _ hb hlt).2.1 k)
        wfc := fun b k p hb => by
          by_cases hlt : b < w.heap.size
          · rw [ho b hlt] at hb; exact hM.wfc b k p hb
          · exact absurd rfl ((hnew b _ hb hlt).2.2.1 k p)
        age := hM.age
        fut := fun b hb => hM.fut b (by omega)
        aged := fun b t hb => by
          by_cases hlt : b < w.heap.size
          · rw [ho b hlt] at hb; exact hM.aged b t hb
          · have := (hnew b t hb hlt).2.2.2
            have h2 : G'.age b = d := hM.fut b (by omega)
            omega }
  by_cases hro : r.own? = true
  · exact key { own := fun _ => none, use := G.use, β := G.β, live := fun _ => False, age := fun _ => 0, cap := G.cap } (fun b t hb => by cases hb) (fun _ h => h) (fun _ => rfl) (fun _ => rfl) (.inl ⟨fun _ => rfl, hro⟩)
  · simp only [Bool.or_eq_true, Bool.and_eq_true] at hr
    obtain ⟨h1, h2⟩ := hr.resolve_left hro
    refine key { own := fun b => (G.own b).map fun _ => .foreign, use := G.use, β := G.β, live := fun _ => False, age := fun _ => 0, cap := G.cap } (fun b t hb => ?_) (fun _ h => h) (fun _ => rfl) (fun _ => rfl) (.inr ⟨h2, h1, fun b => by simp⟩)
    simp only [Option.map_eq_some_iff] at hb
    obtain ⟨t0, ht0, rfl⟩ := hb
    exact ⟨rfl, hM.wf b t0 ht0⟩

end Go.Ev

namespace Go.Ev

def strip : List Nat → List Nat → Option (List Nat)
  | [], q => some q
  | x :: p, y :: q => if x = y then strip p q else none
  | _ :: _, [] => none

theorem strip_app : ∀ (p r : List Nat), strip p (p ++ r) = some r
  | [], r => rfl
  | x :: p, r => by simp [strip, strip_app p r]

theorem strip_eq : ∀ {p q r : List Nat}, strip p q = some r → q = p ++ r
  | [], q, r, h => by simp [strip] at h; exact h
  | x :: p, [], r, h => by simp [strip] at h
  | x :: p, y :: q, r, h => by
    simp only [strip] at h
    split at h
    · rename_i hxy; subst hxy; rw [strip_eq h]; rfl
    · cases h

/-- tags moved, nothing read through a loan -/
structure Rn (G G' : Gh) (o : Ow) (p : List Nat) (o' : Ow) (p' : List Nat) : Prop where
  tag : ∀ b q, G.own b = some (.at o (p ++ q)) → G'.own b = some (.at o' (p' ++ q)) ∧ G'.use b = G.use b
  nil : ∀ b, G.own b = none → G'.own b = none ∧ G.use b ≤ G'.use b
  live : ∀ k, G.live k → G'.live k ∧ G'.β k = G.β k ∧ G'.cap k = G.cap k

theorem Rn.sub {G G' : Gh} {o : Ow} {p : List Nat} {o' : Ow} {p' : List Nat} (h : Rn G G' o p o' p') (i : List Nat) : Rn G G' o (p ++ i) o' (p' ++ i) :=
  ⟨fun b q hq => by rw [List.append_assoc] at hq ⊢; exact h.tag b (i ++ q) hq, h.nil, h.live⟩

mutual
theorem Rn.rd {w : World} {G G' : Gh} {o o' : Ow} : ∀ {d : D} {m : Md} {p p' : List Nat} {v : Value}, Rn G G' o p o' p' → m ≠ .bor → RD w G o m p d v → RD w G' o' m p' d v
  | .sc x, m, p, p', v, _, _, hr => by rw [RD] at hr ⊢; exact hr
  | .sl n cs, m, p, p', v, h, hm, hr => by
    rw [RD] at hr ⊢
    rcases hr with hr | ⟨h1, h2, b, off, cap, hv, hc, hn, hs⟩
    · exact .inl hr
    · refine .inr ⟨h1, h2, b, off, cap, hv, hc, ?_, Rn.rds h (by cases m <;> simp_all [Md.elem]) hs⟩
      cases m with
      | own => exact ⟨by simpa using (h.tag b [] (by simpa using hn.1)).1, by rw [(h.tag b [] (by simpa using hn.1)).2]; exact hn.2.1, hn.2.2⟩
      | top => exact ⟨by simpa using (h.tag b [] (by simpa using hn.1)).1, by rw [(h.tag b [] (by simpa using hn.1)).2]; exact hn.2.1, hn.2.2⟩
      | shr => exact ⟨(h.nil b hn.1).1, Nat.le_trans hn.2 (h.nil b hn.1).2⟩
      | bor => exact absurd rfl hm
theorem Rn.rds {w : World} {G G' : Gh} {o o' : Ow} : ∀ {cs : List D} {m : Md} {p p' : List Nat} {b off i : Nat}, Rn G G' o p o' p' → m ≠ .bor → RDs w G o m p b off i cs → RDs w G' o' m p' b off i cs
  | [], m, p, p', b, off, i, _, _, _ => by rw [RDs]; trivial
  | d :: ds, m, p, p', b, off, i, h, hm, hr => by
    rw [RDs] at hr ⊢
    obtain ⟨⟨v, hv, hd⟩, hr⟩ := hr
    exact ⟨⟨v, hv, Rn.rd (h.sub [i]) hm hd⟩, Rn.rds h hm hr⟩
end

theorem Rn.rc {w : World} {G G' : Gh} {o : Ow} {p : List Nat} {o' : Ow} {p' : List Nat} (h : Rn G G' o p o' p') {c : C} {v : Value} (hr : RC w G o p c v) : RC w G' o' p' c.killB v := by
  cases c with
  | s x => exact hr
  | l m n cs =>
    cases m with
    | own => exact h.rd (by simp) hr
    | top => exact h.rd (by simp) hr
    | shr => exact h.rd (by simp) hr
    | bor => exact trivial
  | ep m cs pos => exact trivial
  | ptr k off => exact ⟨(h.live k hr.1).1, by rw [(h.live k hr.1).2.1]; exact hr.2⟩
  | fn f caps =>
    obtain ⟨hl, vs, hv, hvs⟩ := hr
    refine ⟨fun c hc => (h.live c.1 (hl c hc)).1, vs, hv, ?_⟩
    rw [hvs]
    exact List.map_congr_left fun c hc => by rw [(h.live c.1 (hl c hc)).2.1]
  | bs k n sz =>
    obtain ⟨hl, hz, ba, cap, hv, h1, h2⟩ := hr
    obtain ⟨a1, a2, a3⟩ := h.live k hl
    exact ⟨a1, hz, ba, cap, hv, h1, by rw [a2, a3]; exact h2⟩
  | dead => exact trivial

/-- cells, each moved by itself -/
theorem rcs_killB {w : World} {G G' : Gh} {o : Ow} {p : List Nat} {o' : Ow} {p' : List Nat} {cs : List C} {i : Nat} {vs : List Value} (h : ∀ j, Rn G G' o (p ++ [j]) o' (p' ++ [j])) (hr : RCs w G o p i cs vs) :
    RCs w G' o' p' i (cs.map C.killB) vs := by
  refine ⟨by rw [hr.1, List.length_map], fun j c hj => ?_⟩
  rw [List.getElem?_map] at hj
  cases hc : cs[j]? with
  | none => rw [hc] at hj; cases hj
  | some c0 =>
    rw [hc] at hj
    obtain rfl := Option.some.inj hj
    obtain ⟨x, hx, hrc⟩ := hr.2 j c0 hc
    exact ⟨x, hx, (h (i + j)).rc hrc⟩

theorem Rn.ra {w : World} {G G' : Gh} {o o' : Ow} (h : Rn G G' o [] o' []) {a : AV} {v : Value} (hr : RA w G o a v) : RA w G' o' a.killB v := by
  cases a with
  | one c => exact h.rc hr
  | ag cs =>
    obtain ⟨vs, hv, hs⟩ := hr
    exact ⟨vs, hv, rcs_killB (fun j => h.sub [j]) hs⟩
  | tu l =>
    obtain ⟨vs, hv, hz, hs⟩ := hr
    refine ⟨vs, hv, by rw [hz, List.length_map], fun i b cs hi => ?_⟩
    rw [List.getElem?_map] at hi
    cases hl : l[i]? with
    | none => rw [hl] at hi; cases hi
    | some bc =>
      rw [hl] at hi
      obtain ⟨b0, cs0⟩ := bc
      simp only [Option.map_some, Option.some.injEq, Prod.mk.injEq] at hi
      obtain ⟨rfl, rfl⟩ := hi
      obtain ⟨x, hx, hc⟩ := hs i b0 cs0 hl
      refine ⟨x, hx, ?_⟩
      cases b0 with
      | true =>
        obtain ⟨xs, hxs, hr⟩ := hc
        exact ⟨xs, hxs, rcs_killB (fun j => by simpa using h.sub ([i] ++ [j])) hr⟩
      | false => exact rcs_killB (fun j => by simpa using h.sub ([i] ++ [j])) hc

/-! where a place's cell lies -/
def Loc.ow (d : Nat) : Loc → Ow
  | .env t _ => .slot d t
  | .mem k _ => .cell k
def Loc.path (σ : St) : Loc → List Nat
  | .env t i => match σ.env t with
    | .ag _ => [i]
    | _ => []
  | .mem _ off => [off]

/-- the machine's value at a place -/
def Loc.Val (G : Gh) (σ : St) (tm : Array Value) (w : World) : Loc → Value → Prop
  | .env t i, v => match σ.env t with
    | .ag _ => ∃ vs, tm.getD t undef = .agg vs ∧ vs.toList[i]? = some v
    | _ => v = tm.getD t undef
  | .mem k off, v => ∃ arr e, w.heap[G.β k]? = some (.cells arr e (0, 0)) ∧ arr.toList[off]? = some v

theorem Loc.Val.uniq {G : Gh} {σ : St} {tm : Array Value} {w : World} {l : Loc} {v v' : Value} (h : l.Val G σ tm w v) (h' : l.Val G σ tm w v') : v = v' := by
  cases l with
  | env t i =>
    simp only [Loc.Val] at h h'
    cases he : σ.env t with
    | ag cs =>
      rw [he] at h h'
      obtain ⟨vs, h1, h2⟩ := h
      obtain ⟨vs', h1', h2'⟩ := h'
      rw [h1] at h1'
      cases h1'
      rw [h2] at h2'
      exact Option.some.inj h2'
    | one c => rw [he] at h h'; exact h.trans h'.symm
    | tu c => rw [he] at h h'; exact h.trans h'.symm
  | mem k off =>
    obtain ⟨arr, e, h1, h2⟩ := h
    obtain ⟨arr', e', h1', h2'⟩ := h'
    rw [h1] at h1'
    cases h1'
    rw [h2] at h2'
    exact Option.some.inj h2'

theorem take_some {α : Type} {l : List α} {n j : Nat} {x : α} (h : (l.take n)[j]? = some x) : l[j]? = some x := by
  rw [List.getElem?_take] at h
  split at h
  · exact h
  · cases h

theorem Loc.read {d N : Nat} {G : Gh} {σ : St} {tm : Array Value} {w : World} (h : Sim d N G σ tm w) {l : Loc} {c : C} (hc : l.get σ = some c) : ∃ v, l.Val G σ tm w v ∧ RC w G (l.ow d) (l.path σ) c v := by
  cases l with
  | env t i =>
    have hr := h.env t
    simp only [Loc.get] at hc
    simp only [Loc.path, Loc.ow, Loc.Val]
    cases he : σ.env t with
    | one c0 =>
      rw [he] at hc hr
      simp only at hc
      split at hc
      · cases hc; exact ⟨_, rfl, hr⟩
      · cases hc
    | ag cs =>
      rw [he] at hc hr
      obtain ⟨vs, hv, hs⟩ := hr
      obtain ⟨x, hx, hrc⟩ := hs.2 i c hc
      exact ⟨x, ⟨vs, hv, hx⟩, by simpa using hrc⟩
    | tu l => rw [he] at hc; cases hc
  | mem k off =>
    simp only [Loc.get] at hc
    rw [Option.bind_eq_some_iff] at hc
    obtain ⟨cs, hcs, hc⟩ := hc
    obtain ⟨arr, e, h1, _, _, hr⟩ := h.mem k cs hcs (by rintro rfl; simp at hc)
    obtain ⟨x, hx, hrc⟩ := hr.2 off c hc
    exact ⟨x, ⟨arr, e, h1, take_some hx⟩, by show RC w G (.cell k) [off] c x; simpa using hrc⟩

/-- a place is set: each slot and each box's cells read as told, the place itself as 'c' -/
theorem Sim.place {d N : Nat} {G G' : Gh} {σ σ1 : St} {tm : Array Value} {w : World} (h : Sim d N G σ tm w) {l : Loc} {c0 c : C} (hc0 : l.get σ = some c0) (kE : C → C)
    (hE1 : ∀ t, σ1.env t = match σ.env t with | .one x => .one (kE x) | .ag xs => .ag (xs.map kE) | .tu vs => .tu (vs.map fun (b, xs) => (b, xs.map kE)))
    (hM1 : ∀ k cs, σ1.mem k = some cs → ∃ cs0, σ.mem k = some cs0 ∧ cs = cs0.map kE)
    (hread : ∀ v, l.Val G σ tm w v → RC w G' (l.ow d) (l.path σ) c v)
    (hkeep : ∀ o p x v, (∀ k, o = .cell k → (σ1.mem k).isSome = true) → (∀ q, o = l.ow d → strip (l.path σ) (p ++ q) = none) → RC w G o p x v → RC w G' o p (kE x) v) :
    (∀ t, RA w G' (.slot d t) ((l.set σ1 c).env t) (tm.getD t undef)) ∧
    ∀ k cs, (l.set σ1 c).mem k = some cs → cs ≠ [] → ∃ arr e cs0, σ.mem k = some cs0 ∧ cs.length = cs0.length ∧ w.heap[G.β k]? = some (.cells arr e (0, 0)) ∧ G.own (G.β k) = some (.box k) ∧ arr.size = G.cap k ∧ RCs w G' (.cell k) [] 0 cs (arr.toList.take cs.length) := by
  have hcells : ∀ o p i xs vs, (∀ k, o = .cell k → (σ1.mem k).isSome = true) → (∀ j q, o = l.ow d → strip (l.path σ) ((p ++ [i + j]) ++ q) = none) → RCs w G o p i xs vs → RCs w G' o p i (xs.map kE) vs := by
    intro o p i xs vs hk0 hn hr
    refine ⟨by rw [hr.1, List.length_map], fun j c hj => ?_⟩
    rw [List.getElem?_map] at hj
    cases hx : xs[j]? with
    | none => rw [hx] at hj; cases hj
    | some x =>
      rw [hx] at hj
      cases hj
      obtain ⟨y, hy, hrc⟩ := hr.2 j x hx
      exact ⟨y, hy, hkeep _ _ _ _ hk0 (hn j) hrc⟩
  have hav : ∀ t, (∀ p q, l.ow d = .slot d t → strip (l.path σ) (p ++ q) = none) → RA w G' (.slot d t) (σ1.env t) (tm.getD t undef) := by
    intro t hn
    have hr := h.env t
    rw [hE1 t]
    cases he : σ.env t with
    | one x => rw [he] at hr; exact hkeep _ _ _ _ (fun _ h => by cases h) (fun q hq => hn _ q hq.symm) hr
    | ag xs =>
      rw [he] at hr
      obtain ⟨vs, hv, hs⟩ := hr
      exact ⟨vs, hv, hcells _ _ _ _ _ (fun _ h => by cases h) (fun j q hq => hn _ q hq.symm) hs⟩
    | tu vl =>
      rw [he] at hr
      obtain ⟨vs, hv, hz, hs⟩ := hr
      refine ⟨vs, hv, by rw [hz, List.length_map], fun i b cs hi => ?_⟩
      rw [List.getElem?_map] at hi
      cases hl : vl[i]? with
      | none => rw [hl] at hi; cases hi
      | some bc =>
        rw [hl] at hi
        obtain ⟨b0, cs0⟩ := bc
        simp only [Option.map_some, Option.some.injEq, Prod.mk.injEq] at hi
        obtain ⟨rfl, rfl⟩ := hi
        obtain ⟨x, hx, hc⟩ := hs i b0 cs0 hl
        refine ⟨x, hx, ?_⟩
        cases b0 with
        | true =>
          obtain ⟨xs, hxs, hr⟩ := hc
          exact ⟨xs, hxs, hcells _ _ _ _ _ (fun _ h => by cases h) (fun j q hq => hn _ q hq.symm) hr⟩
        | false => exact hcells _ _ _ _ _ (fun _ h => by cases h) (fun j q hq => hn _ q hq.symm) hc
  have hmem : ∀ k, (∀ p q, l.ow d = .cell k → strip (l.path σ) (p ++ q) = none) → ∀ cs, σ1.mem k = some cs → cs ≠ [] → ∃ arr e cs0, σ.mem k = some cs0 ∧ cs.length = cs0.length ∧ w.heap[G.β k]? = some (.cells arr e (0, 0)) ∧ G.own (G.β k) = some (.box k) ∧ arr.size = G.cap k ∧ RCs w G' (.cell k) [] 0 cs (arr.toList.take cs.length) := by
    intro k hn cs hk hn2
    have hk0 : (σ1.mem k).isSome = true := by rw [hk]; rfl
    obtain ⟨cs0, h0, rfl⟩ := hM1 k cs hk
    obtain ⟨arr, e, h1, h2, h3, h4⟩ := h.mem k cs0 h0 (by rintro rfl; exact hn2 rfl)
    refine ⟨arr, e, cs0, h0, by simp, h1, h2, h3, ?_⟩
    rw [List.length_map]
    exact hcells _ _ _ _ _ (fun _ h => by cases h; exact hk0) (fun j q hq => hn _ q hq.symm) h4
  cases l with
  | env t i =>
    have hmem' : ∀ k cs, σ1.mem k = some cs → _ := fun k cs hk => hmem k (fun p q hq => by cases hq) cs hk
    have hother : ∀ t2, t2 ≠ t → RA w G' (.slot d t2) (σ1.env t2) (tm.getD t2 undef) := fun t2 ht => hav t2 fun p q hq => by
      simp only [Loc.ow, Ow.slot.injEq, true_and] at hq; exact absurd hq.symm ht
    have hr := h.env t
    simp only [Loc.get] at hc0
    cases he : σ.env t with
    | one x =>
      rw [he] at hc0 hr
      simp only at hc0
      split at hc0
      · cases hc0
        have hset : (Loc.env t i).set σ1 c = { σ1 with env := upd σ1.env t (.one c) } := by
          simp only [Loc.set]; rw [hE1 t, he]
        rw [hset]
        refine ⟨fun t2 => ?_, hmem'⟩
        show RA w G' _ (upd σ1.env t (.one c) t2) _
        by_cases ht : t2 = t
        · subst ht
          simp only [upd, if_true]
          have hp : (Loc.env t2 i).path σ = [] := by simp only [Loc.path, he]
          have := hread (tm.getD t2 undef) (by simp only [Loc.Val, he])
          rw [hp] at this
          exact this
        · simp only [upd, ht, if_false]; exact hother t2 ht
      · cases hc0
    | ag xs =>
      rw [he] at hc0 hr
      simp only at hc0
      have hset : (Loc.env t i).set σ1 c = { σ1 with env := upd σ1.env t (.ag ((xs.map kE).set i c)) } := by
        simp only [Loc.set]; rw [hE1 t, he]
      have hp : (Loc.env t i).path σ = [i] := by simp only [Loc.path, he]
      rw [hset]
      refine ⟨fun t2 => ?_, hmem'⟩
      show RA w G' _ (upd σ1.env t _ t2) _
      by_cases ht : t2 = t
      · subst ht
        simp only [upd, if_true]
        obtain ⟨vs, hv, hl, hs⟩ := hr
        refine ⟨vs, hv, by rw [hl, List.length_set, List.length_map], fun j y hj => ?_⟩
        rw [List.getElem?_set] at hj
        by_cases hij : i = j
        · subst hij
          simp only [if_true] at hj
          split at hj
          · cases hj
            obtain ⟨z, hz, hrc⟩ := hs i c0 hc0
            refine ⟨z, hz, ?_⟩
            have := hread z (by simp only [Loc.Val, he]; exact ⟨vs, hv, hz⟩)
            rw [hp] at this
            simpa [Loc.ow] using this
          · cases hj
        · simp only [hij, if_false, List.getElem?_map] at hj
          cases hx : xs[j]? with
          | none => rw [hx] at hj; cases hj
          | some x =>
            rw [hx] at hj
            cases hj
            obtain ⟨z, hz, hrc⟩ := hs j x hx
            refine ⟨z, hz, hkeep _ _ _ _ (fun _ h => by cases h) (fun q _ => ?_) hrc⟩
            rw [hp]
            simp [strip, hij]
      · simp only [upd, ht, if_false]; exact hother t2 ht
    | tu vs => rw [he] at hc0; cases hc0
  | mem k off =>
    simp only [Loc.get] at hc0
    rw [Option.bind_eq_some_iff] at hc0
    obtain ⟨cs0, hcs0, hc0⟩ := hc0
    have henv : ∀ t, RA w G' (.slot d t) (σ1.env t) (tm.getD t undef) := fun t => hav t fun p q hq => by cases hq
    cases hm1 : σ1.mem k with
    | none =>
      have hset : (Loc.mem k off).set σ1 c = σ1 := by simp only [Loc.set, hm1]
      rw [hset]
      refine ⟨henv, fun k2 cs hk2 hn2 => ?_⟩
      by_cases hk : k2 = k
      · subst hk; rw [hm1] at hk2; cases hk2
      · exact hmem k2 (fun p q hq => by simp only [Loc.ow, Ow.cell.injEq] at hq; exact absurd hq.symm hk) cs hk2 hn2
    | some cs1 =>
      have hset : (Loc.mem k off).set σ1 c = { σ1 with mem := upd σ1.mem k (some (cs1.set off c)) } := by simp only [Loc.set, hm1]
      rw [hset]
      refine ⟨henv, fun k2 cs hk2 hn2 => ?_⟩
      have hk2' : upd σ1.mem k (some (cs1.set off c)) k2 = some cs := hk2
      by_cases hk : k2 = k
      · subst hk
        simp only [upd, if_true, Option.some.injEq] at hk2'
        subst hk2'
        obtain ⟨cs0', h0, rfl⟩ := hM1 k2 cs1 hm1
        rw [hcs0] at h0
        cases h0
        obtain ⟨arr, e, h1, h2, h3, h4⟩ := h.mem k2 cs0 hcs0 (by rintro rfl; exact hn2 rfl)
        refine ⟨arr, e, cs0, hcs0, by simp, h1, h2, h3, ?_⟩
        rw [List.length_set, List.length_map]
        refine ⟨by rw [h4.1, List.length_set, List.length_map], fun j y hj => ?_⟩
        rw [List.getElem?_set] at hj
        by_cases hij : off = j
        · subst hij
          simp only [if_true] at hj
          split at hj
          · cases hj
            obtain ⟨z, hz, hrc⟩ := h4.2 off c0 hc0
            exact ⟨z, hz, by have := hread z ⟨arr, e, h1, take_some hz⟩; simpa [Loc.ow, Loc.path] using this⟩
          · cases hj
        · simp only [hij, if_false, List.getElem?_map] at hj
          cases hx : cs0[j]? with
          | none => rw [hx] at hj; cases hj
          | some x =>
            rw [hx] at hj
            cases hj
            obtain ⟨z, hz, hrc⟩ := h4.2 j x hx
            refine ⟨z, hz, hkeep _ _ _ _ (fun _ h => by cases h; rw [hm1]; rfl) (fun q _ => ?_) hrc⟩
            simp [Loc.path, strip, hij]
      · simp only [upd, hk, if_false] at hk2'
        exact hmem k2 (fun p q hq => by simp only [Loc.ow, Ow.cell.injEq] at hq; exact absurd hq.symm hk) cs hk2' hn2

/-! an owned row becomes a box -/
def thawT (oL : Ow) (pL : List Nat) (K : Key) : Tag → Tag
  | .at o q => if o = oL then (match strip pL q with | some [] => .foreign | some (j :: r) => .at (.cell K) (j :: r) | none => .at o q) else .at o q
  | t => t

def thawG (G : Gh) (oL : Ow) (pL : List Nat) (K : Key) (b n : Nat) : Gh :=
  { G with own := fun x => if x = b then some (.box K) else (G.own x).map (thawT oL pL K), β := upd G.β K b, cap := upd G.cap K n, live := fun k => k = K ∨ G.live k }

theorem thawT_box {oL : Ow} {pL : List Nat} {K k : Key} {t : Tag} (h : thawT oL pL K t = .box k) : t = .box k := by
  cases t with
  | foreign => cases h
  | box k' => exact h
  | «at» o q =>
    simp only [thawT] at h
    split at h
    · split at h <;> cases h
    · cases h

theorem thawT_cell {oL : Ow} {pL : List Nat} {K k : Key} {q : List Nat} {t : Tag} (h : thawT oL pL K t = .at (.cell k) q) : k = K ∨ ∃ q', t = .at (.cell k) q' := by
  cases t with
  | foreign => cases h
  | box k' => cases h
  | «at» o r =>
    simp only [thawT] at h
    split at h
    · split at h
      · cases h
      · simp only [Tag.at.injEq, Ow.cell.injEq] at h; exact .inl h.1.symm
      · simp only [Tag.at.injEq] at h; exact .inr ⟨r, by rw [h.1]⟩
    · simp only [Tag.at.injEq] at h; exact .inr ⟨r, by rw [h.1]⟩

theorem thaw_ok {d N : Nat} {G : Gh} {σ : St} {tm : Array Value} {w : World} (h : Sim d N G σ tm w) {l : Loc} {m : Md} {n key sz : Nat} {cs : List D} (hl : l.get σ = some (.l m n cs)) (hne : cs ≠ []) (hm : m = .own ∨ m = .top)
    (hown : l.own? d = true) (hK : σ.mem (d, key) = none) (hlen : cs.length = n * sz) (hsz : 0 < sz) :
    ∃ G', Sim d N G' { l.set σ.killB (.bs (d, key) n sz) with mem := upd (l.set σ.killB (.bs (d, key) n sz)).mem (d, key) (some (cs.map (C.ofD m.elem))) } tm w ∧ Frm d G w G' w := by
  obtain ⟨v0, hval0, hv0⟩ := Loc.read h hl
  have hr0 : RD w G (l.ow d) m (l.path σ) (.sl n cs) v0 := hv0
  rw [RD] at hr0
  rcases hr0 with ⟨h0, _⟩ | ⟨_, hn0, b, off, cap, hv, hcap, hnode, hs⟩
  · exact absurd h0 hne
  have hnode' : G.own b = some (.at (l.ow d) (l.path σ)) ∧ off + cs.length = G.use b ∧ off = 0 ∧ ∃ arr e, w.heap[b]? = some (.cells arr e (0, 0)) ∧ ∀ sz, cs.length = n * sz → off + cap * sz ≤ arr.size := by
    rcases hm with rfl | rfl <;> exact hnode
  obtain ⟨hob, huse, rfl, arr, e, harr, hroom⟩ := hnode'
  have hdep : (l.ow d).dep d = d := by
    cases l with
    | env t i => rfl
    | mem k off =>
      show k.1 = d
      simpa [Loc.own?] using hown
  have hage : d ≤ G.age b := by have := h.aged b _ hob; rw [show (Tag.at (l.ow d) (l.path σ)).dep d = (l.ow d).dep d from rfl, hdep] at this; exact this
  have hbl : b < w.heap.size := h.wf b _ hob
  have hnl : ¬ G.live (d, key) := by rw [h.live, hK]; simp
  have hlive : ∀ k, G.live k → (thawG G (l.ow d) (l.path σ) (d, key) b arr.size).live k ∧ (thawG G (l.ow d) (l.path σ) (d, key) b arr.size).β k = G.β k ∧ (thawG G (l.ow d) (l.path σ) (d, key) b arr.size).cap k = G.cap k := by
    intro k hk
    have hkn : k ≠ (d, key) := fun e => hnl (e ▸ hk)
    exact ⟨.inr hk, by simp [thawG, upd, hkn], by simp [thawG, upd, hkn]⟩
  have hnil : ∀ x, G.own x = none → (thawG G (l.ow d) (l.path σ) (d, key) b arr.size).own x = none ∧ G.use x ≤ (thawG G (l.ow d) (l.path σ) (d, key) b arr.size).use x := by
    intro x hx
    have hxb : x ≠ b := by rintro rfl; rw [hob] at hx; cases hx
    exact ⟨by simp [thawG, hxb, hx], Nat.le_refl _⟩
  have hRn : ∀ o p, (∀ q, o = l.ow d → strip (l.path σ) (p ++ q) = none) → Rn G (thawG G (l.ow d) (l.path σ) (d, key) b arr.size) o p o p := by
    intro o p hno
    refine ⟨fun x q hx => ⟨?_, rfl⟩, hnil, hlive⟩
    have hxb : x ≠ b := by
      rintro rfl
      rw [hob] at hx
      simp only [Option.some.injEq, Tag.at.injEq] at hx
      have := hno q hx.1.symm
      rw [← hx.2] at this
      have h2 := strip_app (l.path σ) []
      rw [List.append_nil, this] at h2
      cases h2
    simp only [thawG, hxb, if_false, hx, Option.map_some, thawT]
    by_cases ho : o = l.ow d
    · rw [if_pos ho, hno q ho]
    · rw [if_neg ho]
  have hRc : ∀ j, Rn G (thawG G (l.ow d) (l.path σ) (d, key) b arr.size) (l.ow d) (l.path σ ++ [j]) (.cell (d, key)) [j] := by
    intro j
    refine ⟨fun x q hx => ⟨?_, rfl⟩, hnil, hlive⟩
    have hxb : x ≠ b := by
      rintro rfl
      rw [hob] at hx
      simp only [Option.some.injEq, Tag.at.injEq, true_and] at hx
      have := congrArg List.length hx
      simp at this
    simp only [thawG, hxb, if_false, hx, Option.map_some, thawT, if_true]
    rw [List.append_assoc, strip_app]
    try rfl
  have hbs : ∀ v, l.Val G σ tm w v → RC w (thawG G (l.ow d) (l.path σ) (d, key) b arr.size) (l.ow d) (l.path σ) (.bs (d, key) n sz) v := by
    intro v hv2
    have hvv := hv2.uniq hval0
    subst hvv
    refine ⟨.inl rfl, hsz, _, cap, hv, fun h0 => by omega, fun _ => ⟨by simp [thawG, upd], hcap, ?_⟩⟩
    show cap * sz ≤ upd G.cap (d, key) arr.size (d, key)
    simp only [upd, if_true]
    have := hroom _ hlen
    omega
  obtain ⟨henv, hmem⟩ := h.place (G' := thawG G (l.ow d) (l.path σ) (d, key) b arr.size) (σ1 := σ.killB) (c := .bs (d, key) n sz) hl C.killB (fun t => by
      show (σ.env t).killB = _
      cases σ.env t <;> rfl) (fun k cs1 hk => by
      have hk' : (σ.mem k).map (List.map C.killB) = some cs1 := hk
      rw [Option.map_eq_some_iff] at hk'
      obtain ⟨cs0, h0, rfl⟩ := hk'
      exact ⟨cs0, h0, rfl⟩) hbs (fun o p x v _ hno hx => (hRn o p hno).rc hx)
  have hsome : ∀ k, ((l.set σ.killB (.bs (d, key) n sz)).mem k).isSome = (σ.mem k).isSome := by
    intro k
    cases l with
    | env t i =>
      simp only [Loc.set]
      split <;> simp [St.killB]
    | mem k' off =>
      simp only [Loc.set]
      split
      · rename_i cs' hcs'
        show (upd σ.killB.mem k' _ k).isSome = _
        by_cases hk : k = k'
        · subst hk
          have : ((σ.mem k).map (List.map C.killB)) = some cs' := hcs'
          rw [Option.map_eq_some_iff] at this
          obtain ⟨c0, h0, _⟩ := this
          simp [upd, h0]
        · simp [upd, hk, St.killB]
      · simp [St.killB]
  refine ⟨thawG G (l.ow d) (l.path σ) (d, key) b arr.size, { sz := h.sz, env := henv, mem := fun k cs2 hk hn2 => ?_, live := fun k => ?_, dep := ?_, wf := ?_, wfb := ?_, wfc := ?_, age := h.age, fut := h.fut, aged := ?_ },
    { size := Nat.le_refl _, kept := Kept.refl w, same := fun x hx ht => ⟨rfl, ?_, rfl⟩, age := fun _ _ _ => rfl, box := fun x hx ha hk k => ?_, use := fun _ _ _ => Nat.le_refl _, cell := fun _ _ _ _ _ _ => rfl, live := fun k hk _ => hlive k hk }⟩
  · by_cases hk2 : k = (d, key)
    · subst hk2
      have hk' : upd (l.set σ.killB (.bs (d, key) n sz)).mem (d, key) (some (cs.map (C.ofD m.elem))) (d, key) = some cs2 := hk
      simp only [upd, if_true, Option.some.injEq] at hk'
      subst hk'
      obtain ⟨vs, e1, e2, e3⟩ := RDs_vals2 hs
      have hle : cs.length ≤ arr.size := by
        have h1 := hroom _ hlen
        have h2 : n * sz ≤ cap * sz := Nat.mul_le_mul_right _ hcap
        omega
      refine ⟨arr, e, by simp only [thawG, upd, if_true]; exact harr, by simp [thawG, upd], by simp [thawG, upd], ?_⟩
      refine ⟨by simp; omega, fun j c hj => ?_⟩
      rw [List.getElem?_map] at hj
      cases hx : cs[j]? with
      | none => rw [hx] at hj; cases hj
      | some x =>
        rw [hx] at hj
        cases hj
        obtain ⟨v, hv1, hrd⟩ := e3 j x hx
        have hjl : j < cs.length := (List.getElem?_eq_some_iff.1 hx).1
        refine ⟨v, ?_, ?_⟩
        · rw [List.getElem?_take, if_pos (by simpa using hjl), Array.getElem?_toList]
          have := e2 j v hv1
          rw [arr_cell harr] at this
          simpa using this
        · refine RC_ofD ?_
          have hme : m.elem ≠ .bor := by rcases hm with rfl | rfl <;> decide
          have := (hRc j).rd (m := m.elem) hme (by simpa using hrd)
          simpa using this
    · have hk' : upd (l.set σ.killB (.bs (d, key) n sz)).mem (d, key) (some (cs.map (C.ofD m.elem))) k = some cs2 := hk
      simp only [upd, hk2, if_false] at hk'
      obtain ⟨arr2, el2, cs0, h0, _, h1, h2, h3, h4⟩ := hmem k cs2 hk' hn2
      have hkl : G.live k := (h.live k).2 (by rw [h0]; rfl)
      obtain ⟨_, a2, a3⟩ := hlive k hkl
      refine ⟨arr2, el2, by rw [a2]; exact h1, ?_, by rw [a3]; exact h3, h4⟩
      rw [a2]
      have hxb : G.β k ≠ b := by intro hb; rw [hb, hob] at h2; cases h2
      simp only [thawG, hxb, if_false, h2]
      rfl
  · show (k = (d, key) ∨ G.live k) ↔ (upd (l.set σ.killB (.bs (d, key) n sz)).mem (d, key) (some (cs.map (C.ofD m.elem))) k).isSome = true
    by_cases hk : k = (d, key)
    · subst hk; simp [upd]
    · simp [upd, hk, hsome, h.live k]
  · rintro k (rfl | hk)
    · exact Nat.le_refl d
    · exact h.dep k hk
  · intro x t hx
    simp only [thawG] at hx
    split at hx
    · rename_i hxb; rw [hxb]; exact hbl
    · rw [Option.map_eq_some_iff] at hx
      obtain ⟨t0, ht0, _⟩ := hx
      exact h.wf x t0 ht0
  · intro x k hx
    simp only [thawG] at hx
    split at hx
    · rename_i hxb
      simp only [Option.some.injEq, Tag.box.injEq] at hx
      subst hx
      exact ⟨.inl rfl, by simp [thawG, upd, hxb]⟩
    · rw [Option.map_eq_some_iff] at hx
      obtain ⟨t0, ht0, hbx⟩ := hx
      have := thawT_box hbx
      subst this
      obtain ⟨a1, a2⟩ := h.wfb x k ht0
      exact ⟨.inr a1, by rw [(hlive k a1).2.1]; exact a2⟩
  · intro x k p hx
    simp only [thawG] at hx
    split at hx
    · cases hx
    · rw [Option.map_eq_some_iff] at hx
      obtain ⟨t0, ht0, hbx⟩ := hx
      rcases thawT_cell hbx with rfl | ⟨q', rfl⟩
      · exact .inl rfl
      · exact .inr (h.wfc x k q' ht0)
  · intro x t hx
    show t.dep d ≤ G.age x
    simp only [thawG] at hx
    split at hx
    · rename_i hxb
      cases hx
      rw [hxb]
      exact hage
    · rw [Option.map_eq_some_iff] at hx
      obtain ⟨t0, ht0, hbx⟩ := hx
      have ha := h.aged x t0 ht0
      subst hbx
      cases t0 with
      | foreign => exact Nat.zero_le _
      | box k => exact ha
      | «at» o q =>
        simp only [thawT]
        split
        · rename_i ho
          split
          · exact Nat.zero_le _
          · show d ≤ G.age x
            rw [ho] at ha
            have : (l.ow d).dep d ≤ G.age x := ha
            omega
          · exact ha
        · exact ha
  · have hxb : x ≠ b := by
      rintro rfl
      apply ht
      rw [hob]
      cases l with
      | env t i => exact Nat.le_refl d
      | mem k off => trivial
    simp only [thawG, hxb, if_false]
    cases hx0 : G.own x with
    | none => rfl
    | some t0 =>
      rw [hx0] at ht
      cases t0 with
      | foreign => rfl
      | box k => rfl
      | «at» o q =>
        simp only [Option.map_some, thawT]
        rw [if_neg]
        rintro rfl
        apply ht
        cases l with
        | env t i => exact Nat.le_refl d
        | mem k off => trivial
  · have hxb : x ≠ b := by rintro rfl; omega
    simp only [thawG, hxb, if_false]
    intro hx2
    rw [Option.map_eq_some_iff] at hx2
    obtain ⟨t0, ht0, hbx⟩ := hx2
    have := thawT_box hbx
    subst this
    exact hk k ht0

theorem thaw_nil_ok {d N : Nat} {G : Gh} {σ : St} {tm : Array Value} {w : World} (h : Sim d N G σ tm w) {l : Loc} {m : Md} {n key sz : Nat} (hl : l.get σ = some (.l m n [])) (hm : m = .own ∨ m = .top)
    (hK : σ.mem (d, key) = none) (hsz : 0 < sz) :
    ∃ G', Sim d N G' { l.set σ.killB (.bs (d, key) n sz) with mem := upd (l.set σ.killB (.bs (d, key) n sz)).mem (d, key) (some []) } tm w ∧ Frm d G w G' w := by
  obtain ⟨v0, hval0, hv0⟩ := Loc.read h hl
  have hr0 : RD w G (l.ow d) m (l.path σ) (.sl n []) v0 := hv0
  rw [RD] at hr0
  rcases hr0 with ⟨_, hn0, ba, cap, hv, hcap⟩ | ⟨h0, _⟩
  rotate_left
  · exact absurd rfl h0
  have hnl : ¬ G.live (d, key) := by rw [h.live, hK]; simp
  have hRn : ∀ o p, Rn G { G with live := fun k => k = (d, key) ∨ G.live k } o p o p := fun o p =>
    ⟨fun x q hx => ⟨hx, rfl⟩, fun x hx => ⟨hx, Nat.le_refl _⟩, fun k hk => ⟨.inr hk, rfl, rfl⟩⟩
  have hc0 : cap = 0 := hcap (by rcases hm with rfl | rfl <;> rfl)
  obtain ⟨henv, hmem⟩ := h.place (G' := { G with live := fun k => k = (d, key) ∨ G.live k }) (σ1 := σ.killB) (c := .bs (d, key) n sz) hl C.killB (fun t => by
      show (σ.env t).killB = _
      cases σ.env t <;> rfl) (fun k cs1 hk => by
      have hk' : (σ.mem k).map (List.map C.killB) = some cs1 := hk
      rw [Option.map_eq_some_iff] at hk'
      obtain ⟨cs0, h0, rfl⟩ := hk'
      exact ⟨cs0, h0, rfl⟩) (fun v hv2 => by
        have hvv := hv2.uniq hval0
        subst hvv
        exact ⟨.inl rfl, hsz, ba, cap, by rw [hv, hn0], fun _ => hc0, fun h0 => by omega⟩) (fun o p x v _ hno hx => (hRn o p).rc hx)
  have hsome : ∀ k, ((l.set σ.killB (.bs (d, key) n sz)).mem k).isSome = (σ.mem k).isSome := by
    intro k
    cases l with
    | env t i =>
      simp only [Loc.set]
      split <;> simp [St.killB]
    | mem k' off =>
      simp only [Loc.set]
      split
      · rename_i cs' hcs'
        show (upd σ.killB.mem k' _ k).isSome = _
        by_cases hk : k = k'
        · subst hk
          have : ((σ.mem k).map (List.map C.killB)) = some cs' := hcs'
          rw [Option.map_eq_some_iff] at this
          obtain ⟨c0, h0, _⟩ := this
          simp [upd, h0]
        · simp [upd, hk, St.killB]
      · simp [St.killB]
  refine ⟨{ G with live := fun k => k = (d, key) ∨ G.live k }, { sz := h.sz, env := henv, mem := fun k cs2 hk hn2 => ?_, live := fun k => ?_, dep := ?_, wf := h.wf, wfb := fun x k hx => ?_, wfc := fun x k p hx => .inr (h.wfc x k p hx), age := h.age, fut := h.fut, aged := h.aged },
    { size := Nat.le_refl _, kept := Kept.refl w, same := fun x hx ht => ⟨rfl, rfl, rfl⟩, age := fun _ _ _ => rfl, box := fun x hx ha hk k => hk k, use := fun _ _ _ => Nat.le_refl _, cell := fun _ _ _ _ _ _ => rfl, live := fun k hk _ => ⟨.inr hk, rfl, rfl⟩ }⟩
  · have hk' : upd (l.set σ.killB (.bs (d, key) n sz)).mem (d, key) (some []) k = some cs2 := hk
    by_cases hk2 : k = (d, key)
    · subst hk2
      simp only [upd, if_true, Option.some.injEq] at hk'
      exact absurd hk'.symm hn2
    · simp only [upd, hk2, if_false] at hk'
      obtain ⟨arr2, el2, cs0, h0, _, h1, h2, h3, h4⟩ := hmem k cs2 hk' hn2
      exact ⟨arr2, el2, h1, h2, h3, h4⟩
  · show (k = (d, key) ∨ G.live k) ↔ (upd (l.set σ.killB (.bs (d, key) n sz)).mem (d, key) (some []) k).isSome = true
    by_cases hk : k = (d, key)
    · subst hk; simp [upd]
    · simp [upd, hk, hsome, h.live k]
  · rintro k (rfl | hk)
    · exact Nat.le_refl d
    · exact h.dep k hk
  · obtain ⟨a1, a2⟩ := h.wfb x k hx
    exact ⟨.inr a1, a2⟩

/-! a box becomes an owned row -/
def frzT (oL : Ow) (pL : List Nat) (k : Key) : Tag → Tag
  | .at (.cell k') r => if k' = k then .at oL (pL ++ r) else .at (.cell k') r
  | t => t

def frzG (G : Gh) (oL : Ow) (pL : List Nat) (k : Key) (n : Nat) : Gh :=
  { G with own := fun x => if x = G.β k then some (.at oL pL) else (G.own x).map (frzT oL pL k), use := upd G.use (G.β k) n, live := fun k' => k' ≠ k ∧ G.live k' }

theorem frzT_box {oL : Ow} {pL : List Nat} {k k2 : Key} {t : Tag} (h : frzT oL pL k t = .box k2) : t = .box k2 := by
  cases t with
  | foreign => cases h
  | box k' => exact h
  | «at» o q =>
    cases o with
    | cell k' =>
      simp only [frzT] at h; split at h <;> cases h
    | _ => cases h

/-- an empty box becomes an empty row: nothing lies in it -/
def rmT (k : Key) : Tag → Tag
  | .box k' => if k' = k then .foreign else .box k'
  | .at (.cell k') r => if k' = k then .foreign else .at (.cell k') r
  | t => t
def rmG (G : Gh) (k : Key) : Gh := { G with own := fun x => (G.own x).map (rmT k), live := fun k' => k' ≠ k ∧ G.live k' }
theorem rmT_box {k k2 : Key} {t : Tag} (h : rmT k t = .box k2) : t = .box k2 ∧ k2 ≠ k := by
  cases t with
  | foreign => cases h
  | box k' =>
    simp only [rmT] at h
    split at h
    · cases h
    · rename_i hne; cases h; exact ⟨rfl, hne⟩
  | «at» o q =>
    cases o with
    | cell k' => simp only [rmT] at h; split at h <;> cases h
    | slot a b => cases h
    | ret => cases h
theorem rmT_cell {k k2 : Key} {p : List Nat} {t : Tag} (h : rmT k t = .at (.cell k2) p) : t = .at (.cell k2) p ∧ k2 ≠ k := by
  cases t with
  | foreign => cases h
  | box k' => simp only [rmT] at h; split at h <;> cases h
  | «at» o q =>
    cases o with
    | cell k' =>
      simp only [rmT] at h
      split at h
      · cases h
      · rename_i hne; cases h; exact ⟨rfl, hne⟩
    | slot a b => cases h
    | ret => cases h

theorem frz_nil_ok {d N : Nat} {G : Gh} {σ : St} {tm : Array Value} {w : World} (h : Sim d N G σ tm w) {l : Loc} {k : Key} {n sz : Nat} (hl : l.get σ = some (.bs k n sz)) (hown : l.notK k = true) (hm : σ.mem k = some [])
    {m : Md} (hkd : k.1 = d) (hn : n = 0) :
    ∃ G', Sim d N G' (l.set (σ.killK k) (.l m n [])) tm w ∧ Frm d G w G' w := by
  obtain ⟨v0, hval0, hv0⟩ := Loc.read h hl
  obtain ⟨hlk, _, ba, cap, hv, hc0, _⟩ := hv0
  have hH : ∀ o p, o ≠ .cell k → Hands w G w (rmG G k) o p o p (· == k) := by
    intro o p hno
    refine { tag := fun x q _ hx => ⟨?_, rfl, rfl⟩, nil := fun x _ hx => ?_, box := fun x _ hx k2 => ?_, use := fun x _ hx => Nat.le_refl _, cell := fun _ _ _ _ _ => rfl, live := fun k2 hk2 hq => ⟨⟨by simpa using hq, hk2⟩, rfl, rfl⟩ }
    · show (G.own x).map (rmT k) = _
      rw [hx]
      cases o with
      | cell k' =>
        simp only [Option.map_some, rmT]
        rw [if_neg (fun hk' => hno (by rw [hk']))]
      | slot a b => rfl
      | ret => rfl
    · show (G.own x).map (rmT k) = _
      rw [hx]; rfl
    · show (G.own x).map (rmT k) ≠ _
      intro hx2
      rw [Option.map_eq_some_iff] at hx2
      obtain ⟨t0, ht0, hbx⟩ := hx2
      obtain ⟨rfl, _⟩ := rmT_box hbx
      exact hx k2 ht0
  obtain ⟨henv, hmem⟩ := h.place (G' := rmG G k) (σ1 := σ.killK k) (c := .l m n []) hl (C.kill (· == k)) (fun t => by
      show (σ.env t).kill _ = _
      cases σ.env t <;> rfl) (fun k1 cs1 hk => by
      have hk' : memKill (· == k) σ.mem k1 = some cs1 := hk
      unfold memKill at hk'
      split at hk'
      · cases hk'
      · rw [Option.map_eq_some_iff] at hk'
        obtain ⟨cs0, h0, rfl⟩ := hk'
        exact ⟨cs0, h0, rfl⟩) (fun v hv2 => by
        have hvv := hv2.uniq hval0
        subst hvv
        show RD w _ _ m _ (.sl n []) _
        rw [RD]
        exact .inl ⟨rfl, hn, ba, cap, by rw [hv, hn], fun _ => hc0 hn⟩) (fun o p x v hk0 hno hx => by
      by_cases ho : o = .cell k
      · have := hk0 k ho
        simp [St.killK, memKill] at this
      · exact (hH o p ho).rc hx)
  have hnone : (l.set (σ.killK k) (.l m n [])).mem k = none := by
    cases l with
    | env t i =>
      simp only [Loc.set]
      split <;> simp [St.killK, memKill]
    | mem k' off =>
      have hk' : k' ≠ k := by simpa [Loc.notK] using hown
      simp only [Loc.set]
      split
      · show upd _ k' _ k = none
        simp [upd, Ne.symm hk', St.killK, memKill]
      · simp [St.killK, memKill]
  have hsome : ∀ k2, k2 ≠ k → ((l.set (σ.killK k) (.l m n [])).mem k2).isSome = (σ.mem k2).isSome := by
    intro k2 hk2
    have h0 : ((σ.killK k).mem k2).isSome = (σ.mem k2).isSome := by simp [St.killK, memKill, hk2]
    cases l with
    | env t i =>
      simp only [Loc.set]
      split <;> exact h0
    | mem k' off =>
      simp only [Loc.set]
      split
      · rename_i cs' hcs'
        show Option.isSome (upd (σ.killK k).mem k' (some (cs'.set off (.l m n []))) k2) = _
        by_cases hk : k2 = k'
        · subst hk
          rw [← h0, hcs']
          simp [upd]
        · simp only [upd, hk, if_false]; exact h0
      · exact h0
  refine ⟨rmG G k, { sz := h.sz, env := henv, mem := fun k2 cs2 hk hn2 => ?_, live := fun k2 => ?_, dep := fun k2 hk2 => h.dep k2 hk2.2, wf := ?_, wfb := ?_, wfc := ?_, age := h.age, fut := h.fut, aged := ?_ },
    { size := Nat.le_refl _, kept := Kept.refl w, same := fun x hx ht => ⟨rfl, ?_, rfl⟩, age := fun _ _ _ => rfl, box := fun x hx ha hk k2 => ?_, use := fun x _ ha => Nat.le_refl _, cell := fun _ _ _ _ _ _ => rfl, live := fun k2 hk2 hd2 => ⟨⟨by rintro rfl; omega, hk2⟩, rfl, rfl⟩ }⟩
  · have hk2 : k2 ≠ k := by rintro rfl; rw [hnone] at hk; cases hk
    obtain ⟨arr2, el2, cs0, h0, _, h1, h2, h3, h4⟩ := hmem k2 cs2 hk hn2
    refine ⟨arr2, el2, h1, ?_, h3, h4⟩
    show (G.own (G.β k2)).map (rmT k) = _
    rw [h2]
    simp [rmT, hk2]
  · show (k2 ≠ k ∧ G.live k2) ↔ _
    by_cases hk2 : k2 = k
    · subst hk2; simp [hnone]
    · rw [hsome k2 hk2, h.live k2]; simp [hk2]
  · intro x t hx
    have hx : (G.own x).map (rmT k) = some t := hx
    rw [Option.map_eq_some_iff] at hx
    obtain ⟨t0, ht0, _⟩ := hx
    exact h.wf x t0 ht0
  · intro x k2 hx
    have hx : (G.own x).map (rmT k) = some (.box k2) := hx
    rw [Option.map_eq_some_iff] at hx
    obtain ⟨t0, ht0, hbx⟩ := hx
    obtain ⟨rfl, hne⟩ := rmT_box hbx
    obtain ⟨a1, a2⟩ := h.wfb x k2 ht0
    exact ⟨⟨hne, a1⟩, a2⟩
  · intro x k2 p hx
    have hx : (G.own x).map (rmT k) = some (.at (.cell k2) p) := hx
    rw [Option.map_eq_some_iff] at hx
    obtain ⟨t0, ht0, hbx⟩ := hx
    obtain ⟨rfl, hne⟩ := rmT_cell hbx
    exact ⟨hne, h.wfc x k2 p ht0⟩
  · intro x t hx
    have hx : (G.own x).map (rmT k) = some t := hx
    show t.dep d ≤ G.age x
    rw [Option.map_eq_some_iff] at hx
    obtain ⟨t0, ht0, hbx⟩ := hx
    have ha := h.aged x t0 ht0
    subst hbx
    cases t0 with
    | foreign => exact Nat.zero_le _
    | box k' =>
      simp only [rmT]
      split
      · exact Nat.zero_le _
      · exact ha
    | «at» o q =>
      cases o with
      | cell k' =>
        simp only [rmT]
        split
        · exact Nat.zero_le _
        · exact ha
      | slot a b => exact ha
      | ret => exact ha
  · show (G.own x).map (rmT k) = _
    cases hx0 : G.own x with
    | none => rfl
    | some t0 =>
      rw [hx0] at ht
      cases t0 with
      | foreign => rfl
      | box k' => exact absurd trivial ht
      | «at» o q =>
        cases o with
        | cell k' => exact absurd trivial ht
        | slot a b => rfl
        | ret => rfl
  · show (G.own x).map (rmT k) ≠ _
    intro hx2
    rw [Option.map_eq_some_iff] at hx2
    obtain ⟨t0, ht0, hbx⟩ := hx2
    obtain ⟨rfl, _⟩ := rmT_box hbx
    exact hk k2 ht0

theorem frz_ok {d N : Nat} {G : Gh} {σ : St} {tm : Array Value} {w : World} (h : Sim d N G σ tm w) {l : Loc} {k : Key} {n sz : Nat} (hl : l.get σ = some (.bs k n sz)) (hown : l.notK k = true) {cs : List C} (hm : σ.mem k = some cs) {m : Md} {ds : List D}
    (hmo : modeOf (cs.take (n * sz)) = some m) (hds : (cs.take (n * sz)).mapM C.toD = some ds) (hkd : k.1 = d) (hlen : (cs.take (n * sz)).length = n * sz) (hz : 0 < sz) (hcne : cs ≠ []) :
    ∃ G', Sim d N G' (l.set (σ.killK k) (.l m n ds)) tm w ∧ Frm d G w G' w := by
  obtain ⟨v0, hval0, hv0⟩ := Loc.read h hl
  obtain ⟨hlk, _, ba, cap, hv, hc0, hpos'⟩ := hv0
  obtain ⟨arr, e, harr, hob, harrsz, hcells⟩ := h.mem k cs hm hcne
  have hdep : (l.ow d).dep d ≤ d := by
    cases l with
    | env t i => exact Nat.le_refl d
    | mem k' off =>
      simp only [Loc.get] at hl
      rw [Option.bind_eq_some_iff] at hl
      obtain ⟨cs', hcs', _⟩ := hl
      exact h.dep k' ((h.live k').2 (by rw [hcs']; rfl))
  have hage : d ≤ G.age (G.β k) := by have := h.aged _ _ hob; rw [← hkd]; exact this
  obtain ⟨hl1, hl2⟩ := mapM_toD hds
  have hH : ∀ o p, o ≠ .cell k → Hands w G w (frzG G (l.ow d) (l.path σ) k ds.length) o p o p (· == k) := by
    intro o p hno
    refine { tag := fun x q _ hx => ?_, nil := fun x _ hx => ?_, box := fun x _ hx k2 => ?_, use := fun x _ hx => ?_, cell := fun _ _ _ _ _ => rfl, live := fun k2 hk2 hq => ⟨⟨by simpa using hq, hk2⟩, rfl, rfl⟩ }
    · have hxb : x ≠ G.β k := by rintro rfl; rw [hob] at hx; cases hx
      refine ⟨?_, by simp [frzG, upd, hxb], rfl⟩
      simp only [frzG, hxb, if_false, hx, Option.map_some, frzT]
      split
      · rename_i heq
        simp only [Tag.at.injEq] at heq
        split
        · rename_i hk'
          subst hk'
          exact absurd heq.1 hno
        · rw [← heq.1, ← heq.2]
      · rfl
    · have hxb : x ≠ G.β k := by rintro rfl; rw [hob] at hx; cases hx
      simp [frzG, hxb, hx]
    · have hxb : x ≠ G.β k := by rintro rfl; exact hx k hob
      simp only [frzG, hxb, if_false]
      intro hx2
      rw [Option.map_eq_some_iff] at hx2
      obtain ⟨t0, ht0, hbx⟩ := hx2
      have := frzT_box hbx
      subst this
      exact hx k2 ht0
    · have hxb : x ≠ G.β k := by rintro rfl; exact hx k hob
      simp [frzG, upd, hxb]
  have hC : ∀ j, Hand w G w (frzG G (l.ow d) (l.path σ) k ds.length) (.cell k) [j] (l.ow d) (l.path σ ++ [j]) := by
    intro j
    have h0 := (hH .ret [] (by simp)).toHand
    refine { tag := fun x q _ hx => ?_, nil := h0.nil, box := h0.box, use := h0.use, cell := h0.cell }
    have hxb : x ≠ G.β k := by rintro rfl; rw [hob] at hx; cases hx
    refine ⟨?_, by simp [frzG, upd, hxb], rfl⟩
    simp only [frzG, hxb, if_false, hx, Option.map_some, frzT, List.cons_append, List.nil_append, if_true, List.append_assoc]
  have hread : ∀ v, l.Val G σ tm w v → RC w (frzG G (l.ow d) (l.path σ) k ds.length) (l.ow d) (l.path σ) (.l m n ds) v := by
    intro v hv2
    have hvv := hv2.uniq hval0
    subst hvv
    show RD w _ _ m _ (.sl n ds) _
    obtain ⟨hmo1, _⟩ := modeOf_ok (w := w) (G := G) (o := .cell k) (p := []) hmo
    rw [RD]
    by_cases hn : n = 0
    · left
      subst hn
      refine ⟨List.length_eq_zero_iff.1 (by rw [hl1, hlen]; simp), rfl, _, cap, hv, fun _ => hc0 rfl⟩
    · right
      have hpos : 0 < n * sz := Nat.mul_pos (Nat.pos_of_ne_zero hn) hz
      have hdl : ds.length = n * sz := by rw [hl1, hlen]
      obtain ⟨rfl, hcap, hroom⟩ := hpos' (Nat.pos_of_ne_zero hn)
      refine ⟨by rintro rfl; simp at hdl; omega, Nat.pos_of_ne_zero hn, G.β k, 0, cap, hv, hcap, ?_, RDs_of fun j x hj => ?_⟩
      · have hh : (frzG G (l.ow d) (l.path σ) k ds.length).own (G.β k) = some (.at (l.ow d) (l.path σ)) ∧ 0 + ds.length = (frzG G (l.ow d) (l.path σ) k ds.length).use (G.β k) ∧ 0 = 0 ∧
            ∃ arr e, w.heap[G.β k]? = some (.cells arr e (0, 0)) ∧ ∀ sz, ds.length = n * sz → 0 + cap * sz ≤ arr.size := by
          refine ⟨by simp [frzG], by simp [frzG, upd], rfl, arr, e, harr, fun sz' hsz' => ?_⟩
          have : sz' = sz := by
            rw [hdl] at hsz'
            exact (Nat.eq_of_mul_eq_mul_left (Nat.pos_of_ne_zero hn) hsz').symm
          subst this
          rw [harrsz]
          omega
        cases m <;> first | exact hh | simp [Md.isOwn] at hmo1
      · obtain ⟨c, hc, hcx⟩ := hl2 j x hj
        have hcs : cs[j]? = some c := take_some hc
        obtain ⟨u, hu, hrc⟩ := hcells.2 j c hcs
        refine ⟨u, ?_, ?_⟩
        · rw [arr_cell harr]
          have := take_some hu
          rw [Array.getElem?_toList] at this
          simpa using this
        · obtain ⟨_, hme⟩ := modeOf_ok (w := w) (G := G) (o := .cell k) (p := [j]) hmo
          have := hme c (List.mem_of_getElem? hc) x u hcx (by simpa using hrc)
          simpa using (hC j).rd this
  obtain ⟨henv, hmem⟩ := h.place (G' := frzG G (l.ow d) (l.path σ) k ds.length) (σ1 := σ.killK k) (c := .l m n ds) hl (C.kill (· == k)) (fun t => by
      show (σ.env t).kill _ = _
      cases σ.env t <;> rfl) (fun k1 cs1 hk => by
      have hk' : memKill (· == k) σ.mem k1 = some cs1 := hk
      unfold memKill at hk'
      split at hk'
      · cases hk'
      · rw [Option.map_eq_some_iff] at hk'
        obtain ⟨cs0, h0, rfl⟩ := hk'
        exact ⟨cs0, h0, rfl⟩) hread (fun o p x v hk0 hno hx => by
      by_cases ho : o = .cell k
      · have := hk0 k ho
        simp [St.killK, memKill] at this
      · exact (hH o p ho).rc hx)
  have hnone : (l.set (σ.killK k) (.l m n ds)).mem k = none := by
    cases l with
    | env t i =>
      simp only [Loc.set]
      split <;> simp [St.killK, memKill]
    | mem k' off =>
      have hk' : k' ≠ k := by simpa [Loc.notK] using hown
      simp only [Loc.set]
      split
      · show upd _ k' _ k = none
        simp [upd, Ne.symm hk', St.killK, memKill]
      · simp [St.killK, memKill]
  have hsome : ∀ k2, k2 ≠ k → ((l.set (σ.killK k) (.l m n ds)).mem k2).isSome = (σ.mem k2).isSome := by
    intro k2 hk2
    have h0 : ((σ.killK k).mem k2).isSome = (σ.mem k2).isSome := by simp [St.killK, memKill, hk2]
    cases l with
    | env t i =>
      simp only [Loc.set]
      split <;> exact h0
    | mem k' off =>
      simp only [Loc.set]
      split
      · rename_i cs' hcs'
        show Option.isSome (upd (σ.killK k).mem k' (some (cs'.set off (.l m n ds))) k2) = _
        by_cases hk : k2 = k'
        · subst hk
          rw [← h0, hcs']
          simp [upd]
        · simp only [upd, hk, if_false]; exact h0
      · exact h0
  have hplace : ∀ k2 p, Tag.at (l.ow d) (l.path σ ++ p) = .at (.cell k2) (l.path σ ++ p) → k2 ≠ k ∧ G.live k2 := by
    intro k2 p hk2
    cases l with
    | env t i => cases hk2
    | mem k' off =>
      simp only [Loc.ow, Tag.at.injEq, Ow.cell.injEq, and_true] at hk2
      subst hk2
      refine ⟨by simpa [Loc.notK] using hown, ?_⟩
      simp only [Loc.get] at hl
      rw [Option.bind_eq_some_iff] at hl
      obtain ⟨cs', hcs', _⟩ := hl
      exact (h.live k').2 (by rw [hcs']; rfl)
  refine ⟨frzG G (l.ow d) (l.path σ) k ds.length, { sz := h.sz, env := henv, mem := fun k2 cs2 hk hn2 => ?_, live := fun k2 => ?_, dep := fun k2 hk2 => h.dep k2 hk2.2, wf := ?_, wfb := ?_, wfc := ?_, age := h.age, fut := h.fut, aged := ?_ },
    { size := Nat.le_refl _, kept := Kept.refl w, same := fun x hx ht => ⟨rfl, ?_, ?_⟩, age := fun _ _ _ => rfl, box := fun x hx ha hk k2 => ?_, use := fun x _ ha => ?_, cell := fun _ _ _ _ _ _ => rfl, live := fun k2 hk2 hd2 => ⟨⟨by rintro rfl; omega, hk2⟩, rfl, rfl⟩ }⟩
  · have hk2 : k2 ≠ k := by rintro rfl; rw [hnone] at hk; cases hk
    obtain ⟨arr2, el2, cs0, h0, _, h1, h2, h3, h4⟩ := hmem k2 cs2 hk hn2
    refine ⟨arr2, el2, h1, ?_, h3, h4⟩
    have hxb : G.β k2 ≠ G.β k := by
      intro hb
      rw [hb, hob] at h2
      simp only [Option.some.injEq, Tag.box.injEq] at h2
      exact hk2 h2.symm
    show (if G.β k2 = G.β k then some (Tag.at (l.ow d) (l.path σ)) else (G.own (G.β k2)).map (frzT (l.ow d) (l.path σ) k)) = _
    rw [if_neg hxb, h2]
    rfl
  · show (k2 ≠ k ∧ G.live k2) ↔ _
    by_cases hk2 : k2 = k
    · subst hk2; simp [hnone]
    · rw [hsome k2 hk2, h.live k2]; simp [hk2]
  · intro x t hx
    simp only [frzG] at hx
    split at hx
    · rename_i hxb; rw [hxb]; exact h.wf _ _ hob
    · rw [Option.map_eq_some_iff] at hx
      obtain ⟨t0, ht0, _⟩ := hx
      exact h.wf x t0 ht0
  · intro x k2 hx
    simp only [frzG] at hx
    split at hx
    · cases hx
    · rename_i hxb
      rw [Option.map_eq_some_iff] at hx
      obtain ⟨t0, ht0, hbx⟩ := hx
      have := frzT_box hbx
      subst this
      obtain ⟨a1, a2⟩ := h.wfb x k2 ht0
      exact ⟨⟨by rintro rfl; exact hxb a2.symm, a1⟩, a2⟩
  · intro x k2 p hx
    show k2 ≠ k ∧ G.live k2
    simp only [frzG] at hx
    split at hx
    · simp only [Option.some.injEq] at hx
      refine hplace k2 [] ?_
      simp only [Tag.at.injEq] at hx
      rw [hx.1]
    · rw [Option.map_eq_some_iff] at hx
      obtain ⟨t0, ht0, hbx⟩ := hx
      cases t0 with
      | foreign => cases hbx
      | box k' => cases hbx
      | «at» o q =>
        cases o with
        | cell k' =>
          simp only [frzT] at hbx
          split at hbx
          · refine hplace k2 q ?_
            simp only [Tag.at.injEq] at hbx
            rw [hbx.1]
          · rename_i hk'
            simp only [Tag.at.injEq, Ow.cell.injEq] at hbx
            rw [← hbx.1]
            exact ⟨hk', h.wfc x k' q ht0⟩
        | slot a b => cases hbx
        | ret => cases hbx
  · intro x t hx
    show t.dep d ≤ G.age x
    simp only [frzG] at hx
    split at hx
    · rename_i hxb
      cases hx
      rw [hxb]
      exact Nat.le_trans hdep hage
    · rw [Option.map_eq_some_iff] at hx
      obtain ⟨t0, ht0, hbx⟩ := hx
      have ha := h.aged x t0 ht0
      subst hbx
      cases t0 with
      | foreign => exact Nat.zero_le _
      | box k' => exact ha
      | «at» o q =>
        cases o with
        | cell k' =>
          simp only [frzT]
          split
          · rename_i hk'
            subst hk'
            have ha : k'.1 ≤ G.age x := ha
            exact Nat.le_trans hdep (by omega)
          · exact ha
        | slot a b => exact ha
        | ret => exact ha
  · have hxb : x ≠ G.β k := by rintro rfl; apply ht; rw [hob]; trivial
    show (if x = G.β k then some (Tag.at (l.ow d) (l.path σ)) else (G.own x).map (frzT (l.ow d) (l.path σ) k)) = _
    rw [if_neg hxb]
    cases hx0 : G.own x with
    | none => rfl
    | some t0 =>
      rw [hx0] at ht
      cases t0 with
      | foreign => rfl
      | box k' => rfl
      | «at» o q =>
        cases o with
        | cell k' => exact absurd trivial ht
        | slot a b => rfl
        | ret => rfl
  · have hxb : x ≠ G.β k := by rintro rfl; apply ht; rw [hob]; trivial
    show upd G.use _ _ x = _
    simp [upd, hxb]
  · have hxb : x ≠ G.β k := by rintro rfl; omega
    show (if x = G.β k then some (Tag.at (l.ow d) (l.path σ)) else (G.own x).map (frzT (l.ow d) (l.path σ) k)) ≠ _
    rw [if_neg hxb]
    intro hx2
    rw [Option.map_eq_some_iff] at hx2
    obtain ⟨t0, ht0, hbx⟩ := hx2
    have := frzT_box hbx
    subst this
    exact hk k2 ht0
  · have hxb : x ≠ G.β k := by rintro rfl; omega
    show _ ≤ upd G.use _ _ x
    simp [upd, hxb]

/-- the account's steps -/
theorem Sim.setMem' {d N : Nat} {G : Gh} {σ : St} {tm : Array Value} {w : World} (h : Sim d N G σ tm w) {k : Key} {cs cs' : List C} (hm : σ.mem k = some cs) (hlen : cs'.length = cs.length)
    (hr : ∀ vs : List Value, RCs w G (.cell k) [] 0 cs (vs.take cs.length) → RCs w G (.cell k) [] 0 cs' (vs.take cs'.length)) : Sim d N G { σ with mem := upd σ.mem k (some cs') } tm w :=
  { sz := h.sz, env := h.env, dep := h.dep, wf := h.wf, wfb := h.wfb, wfc := h.wfc, age := h.age, fut := h.fut, aged := h.aged
    mem := fun k2 cs2 hk2 hn2 => by
      by_cases hkk : k2 = k
      · subst hkk
        have : upd σ.mem k2 (some cs') k2 = some cs2 := hk2
        simp only [upd, if_true, Option.some.injEq] at this
        subst this
        obtain ⟨arr, e, h1, h2, h2c, h3⟩ := h.mem k2 cs hm (by rintro rfl; exact hn2 (List.length_eq_zero_iff.1 hlen))
        exact ⟨arr, e, h1, h2, h2c, hr _ h3⟩
      · have : upd σ.mem k (some cs') k2 = some cs2 := hk2
        simp only [upd, hkk, if_false] at this
        exact h.mem k2 cs2 this hn2
    live := fun k2 => by
      rw [h.live k2]
      show (σ.mem k2).isSome = true ↔ (upd σ.mem k (some cs') k2).isSome = true
      by_cases hkk : k2 = k
      · subst hkk; simp [upd, hm]
      · simp [upd, hkk] }

/-- cells of a box are given up -/
theorem die_ok {d N : Nat} {G : Gh} {σ : St} {tm : Array Value} {w : World} (h : Sim d N G σ tm w) {k : Key} {off sz : Nat} {cs : List C} (hm : σ.mem k = some cs) (hle : off + sz ≤ cs.length) :
    Sim d N G { σ with mem := upd σ.mem k (some (splice cs off (List.replicate sz .dead))) } tm w :=
  h.setMem' hm (by rw [splice_length _ _ _ (by simpa using hle)]) fun arr hr => by
    have hl : (splice cs off (List.replicate sz C.dead)).length = cs.length := splice_length _ _ _ (by simpa using hle)
    rw [hl]
    refine ⟨by rw [hr.1, hl], fun j c hj => ?_⟩
    rw [splice_get _ _ _ (by simpa using hle)] at hj
    split at hj
    · rename_i hin
      rw [List.length_replicate] at hin
      have hd : c = C.dead := by
        rw [List.getElem?_replicate] at hj
        split at hj
        · cases hj; rfl
        · cases hj
      subst hd
      have hjl : j < (arr.take cs.length).length := by rw [hr.1]; omega
      exact ⟨_, List.getElem?_eq_getElem hjl, trivial⟩
    · exact hr.2 j c hj

theorem Rn.same (G : Gh) (o : Ow) (p : List Nat) : Rn G G o p o p := ⟨fun _ _ hq => ⟨hq, rfl⟩, fun _ hn => ⟨hn, Nat.le_refl _⟩, fun _ hk => ⟨hk, rfl, rfl⟩⟩
theorem Sim.killB {d N : Nat} {G : Gh} {σ : St} {tm : Array Value} {w : World} (h : Sim d N G σ tm w) : Sim d N G σ.killB tm w where
  sz := h.sz
  env t := (Rn.same G (.slot d t) []).ra (h.env t)
  mem k cs hk hne := by
    have hk' : (σ.mem k).map (List.map C.killB) = some cs := hk
    rw [Option.map_eq_some_iff] at hk'
    obtain ⟨cs0, h0, rfl⟩ := hk'
    obtain ⟨arr, e, h1, h2, h3, h4⟩ := h.mem k cs0 h0 (by rintro rfl; exact hne rfl)
    exact ⟨arr, e, h1, h2, h3, by rw [List.length_map]; exact rcs_killB (fun j => Rn.same G _ _) h4⟩
  live k := by
    rw [h.live k]
    show _ ↔ ((σ.mem k).map (List.map C.killB)).isSome = true
    rw [Option.isSome_map]
  dep := h.dep
  wf := h.wf
  wfb := h.wfb
  wfc := h.wfc
  age := h.age
  fut := h.fut
  aged := h.aged

theorem ghoB_ok {d N : Nat} {G : Gh} {σ σ' : St} {tm : Array Value} {w : World} (h : Sim d N G σ tm w) {x : Gho} (hx : ghoB d σ x = some σ') : ∃ G', Sim d N G' σ' tm w ∧ Frm d G w G' w := by
  cases x with
  | thaw p key sz =>
    simp only [ghoB] at hx
    rw [Option.bind_eq_some_iff] at hx
    obtain ⟨l, hl, hx⟩ := hx
    rw [Option.bind_eq_some_iff] at hx
    obtain ⟨c, hc, hx⟩ := hx
    split at hx
    · rename_i m n cs
      split at hx
      · rename_i hcond
        simp only [Option.some.injEq] at hx
        subst hx
        have hnone : σ.mem (d, key) = none := by simpa using hcond.2.2.1
        by_cases hne : cs = []
        · subst hne
          exact thaw_nil_ok h hc hcond.1 hnone hcond.2.2.2.2
        · exact thaw_ok h hc hne hcond.1 hcond.2.1 hnone hcond.2.2.2.1 hcond.2.2.2.2
      · cases hx
    · cases hx; exact ⟨G, h, Frm.refl _ _ _⟩
    · cases hx
  | frz p =>
    simp only [ghoB] at hx
    rw [Option.bind_eq_some_iff] at hx
    obtain ⟨l, hl, hx⟩ := hx
    rw [Option.bind_eq_some_iff] at hx
    obtain ⟨c, hc, hx⟩ := hx
    split at hx
    · rename_i k n sz
      simp only [Option.bind_eq_some_iff] at hx
      obtain ⟨cs, hcs, m, hm, ds, hds, hx⟩ := hx
      split at hx
      · rename_i hcond
        simp only [Option.some.injEq] at hx
        subst hx
        by_cases hne : cs = []
        · subst hne
          have hn0 : n = 0 := by
            have h1 := hcond.2.1
            simp only [List.take_nil, List.length_nil] at h1
            rcases Nat.mul_eq_zero.1 h1.symm with h2 | h2
            · exact h2
            · have := hcond.2.2.1; omega
          obtain rfl : ds = [] := by
            simp only [List.take_nil, List.mapM_nil] at hds
            exact (Option.some.inj hds).symm
          exact frz_nil_ok h hc hcond.2.2.2 hcs hcond.1 hn0
        · exact frz_ok h hc hcond.2.2.2 hcs hm hds hcond.1 hcond.2.1 hcond.2.2.1 hne
      · cases hx
    · cases hx; exact ⟨G, h, Frm.refl _ _ _⟩
  | die p sz =>
    simp only [ghoB] at hx
    rw [Option.bind_eq_some_iff] at hx
    obtain ⟨l, hl, hx⟩ := hx
    split at hx
    · rename_i k off
      rw [Option.bind_eq_some_iff] at hx
      obtain ⟨cs, hcs, hx⟩ := hx
      split at hx
      · rename_i hle
        cases hx
        exact ⟨G, die_ok h hcs hle, Frm.refl _ _ _⟩
      · cases hx
    · cases hx
  | calm =>
    simp only [ghoB, Option.some.injEq] at hx
    subst hx
    exact ⟨G, h.killB, Frm.refl _ _ _⟩
  | drop q =>
    simp only [ghoB, Option.some.injEq] at hx
    subst hx
    let p : Key → Bool := fun x => decide (d ≤ x.1) && q x
    have hpd : ∀ k, p k = true → d ≤ k.1 := by
      intro k hk
      simp only [p, Bool.and_eq_true, decide_eq_true_eq] at hk
      exact hk.1
    exact ⟨G.drop p d, (h.memOK.drop p (Nat.le_refl d) (fun k' hk _ => h.dep k' hk)).sim h.sz fun t =>
      (drop_hands G w p d (.slot d t) [] (by simp) (fun d' t' hh => by cases hh; exact Nat.le_refl _)).ra (h.env t), drop_frm d G w p d hpd (Nat.le_succ d)⟩
  | many F => simp only [ghoB] at hx; cases hx
theorem ghoLB_ok {d N : Nat} {tm : Array Value} {w : World} : ∀ {l : List Gho} {G : Gh} {σ σ' : St}, Sim d N G σ tm w → ghoLB d l σ = some σ' → ∃ G', Sim d N G' σ' tm w ∧ Frm d G w G' w
  | [], G, σ, σ', h, hx => by cases hx; exact ⟨G, h, Frm.refl _ _ _⟩
  | x :: r, G, σ, σ', h, hx => by
    simp only [ghoLB] at hx
    rw [Option.bind_eq_some_iff] at hx
    obtain ⟨σ1, h1, h2⟩ := hx
    obtain ⟨G1, hS1, hF1⟩ := ghoB_ok h h1
    obtain ⟨G2, hS2, hF2⟩ := ghoLB_ok hS1 h2
    exact ⟨G2, hS2, hF1.trans hF2⟩
theorem gho1_ok {d N : Nat} {G : Gh} {σ σ' : St} {tm : Array Value} {w : World} (h : Sim d N G σ tm w) {x : Gho} (hx : gho1 d σ x = some σ') : ∃ G', Sim d N G' σ' tm w ∧ Frm d G w G' w := by
  cases x with
  | many F => exact ghoLB_ok h hx
  | thaw p key sz => exact ghoB_ok h (x := .thaw p key sz) hx
  | frz p => exact ghoB_ok h (x := .frz p) hx
  | die p sz => exact ghoB_ok h (x := .die p sz) hx
  | calm => exact ghoB_ok h (x := .calm) hx
  | drop q => exact ghoB_ok h (x := .drop q) hx

theorem ghoL_ok {d N : Nat} {tm : Array Value} {w : World} : ∀ {l : List Gho} {G : Gh} {σ σ' : St}, Sim d N G σ tm w → ghoL d l σ = some σ' → ∃ G', Sim d N G' σ' tm w ∧ Frm d G w G' w
  | [], G, σ, σ', h, hx => by cases hx; exact ⟨G, h, Frm.refl _ _ _⟩
  | x :: r, G, σ, σ', h, hx => by
    simp only [ghoL] at hx
    rw [Option.bind_eq_some_iff] at hx
    obtain ⟨σ1, h1, h2⟩ := hx
    obtain ⟨G1, hS1, hF1⟩ := gho1_ok h h1
    obtain ⟨G2, hS2, hF2⟩ := ghoL_ok hS1 h2
    exact ⟨G2, hS2, hF1.trans hF2⟩

theorem ghoAt_ok {g : Cfg} {d f id N : Nat} {tm : Array Value} {w : World} {G : Gh} {σ σ' : St} (h : Sim d N G σ tm w) (hx : ghoAt g d f id σ = some σ') : ∃ G', Sim d N G' σ' tm w ∧ Frm d G w G' w := by
  unfold ghoAt at hx
  split at hx
  · cases hx; exact ⟨G, h, Frm.refl _ _ _⟩
  · exact ghoL_ok h hx

end Go.Ev
