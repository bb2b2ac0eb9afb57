import Derived.Test.YtahcfnjgllpkdaaEvRun2
set_option linter.unusedSimpArgs false
set_option linter.unusedVariables false
set_option linter.unnecessarySimpa false
namespace Go.Ev

/-- one operation of a region, its guard looked at -/
def stepG (S : Oper → St → Option St) (ops : Array Oper) (o : Oper) (σ : St) : Option St :=
  (wants ops σ.env o).bind fun want => if want then S o σ else some { σ with env := putD σ.env o.dst .skp }

def arun (S : Oper → St → Option St) (ops : Array Oper) : List Oper → St → Option St
  | [], σ => some σ
  | o :: r, σ => (stepG S ops o σ).bind (arun S ops r)

theorem stepW_mono (g : Cfg) (n d f : Nat) (o : Oper) (σ : St) : Le (stepW (callN g n d) g d f o σ) (stepW (callN g (n + 1) d) g d f o σ) := by
  unfold stepW
  split
  · exact Le.bind (Le.refl _) fun kc => Le.bind (mono_call g d _ _ _ n) fun _ => Le.refl _
  · exact Le.refl _

theorem stepW_le (g : Cfg) (d f : Nat) (o : Oper) (σ : St) {m n : Nat} (h : m ≤ n) : Le (stepW (callN g m d) g d f o σ) (stepW (callN g n d) g d f o σ) := by
  induction h with
  | refl => exact Le.refl _
  | step _ ih => exact fun a ha => stepW_mono _ _ _ _ _ _ a (ih a ha)

theorem arun_of_evOps (g : Cfg) (d f : Nat) (ops : Array Oper) : ∀ (l : List Oper) (n N : Nat) (σ σ' : St), n ≤ N + 1 → evOps g n d f ops l σ = some σ' → arun (stepW (callN g N d) g d f) ops l σ = some σ'
  | [], n, N, σ, σ', _, h => by
    cases n with
    | zero => rw [evOps] at h; cases h
    | succ n => rw [evOps] at h; exact h
  | o :: r, n, N, σ, σ', hn, h => by
    cases n with
    | zero => rw [evOps] at h; cases h
    | succ n =>
      rw [evOps] at h
      rw [Option.bind_eq_some_iff] at h
      obtain ⟨want, hw, h⟩ := h
      rw [Option.bind_eq_some_iff] at h
      obtain ⟨σ1, h1, h2⟩ := h
      simp only [arun, stepG, hw, Option.bind_some]
      have hs : (if want = true then stepW (callN g N d) g d f o σ else some { σ with env := putD σ.env o.dst .skp }) = some σ1 := by
        cases want with
        | true => exact stepW_le g d f o σ (by omega) σ1 h1
        | false => exact h1
      rw [hs, Option.bind_some]
      exact arun_of_evOps g d f ops r n N σ1 σ' (by omega) h2

/-- what is shown of one step -/
def StepOK (P : Program) (d N : Nat) (o : Oper) (σ σ' : St) : Prop :=
  ∀ (G : Gh) (w : World) (a : Act) (K : Act → World → Prop) (Q : Exit → Act → World → Prop), Sim d N G σ a.tmps w →
    (∀ G' a' w', Sim d N G' σ' a'.tmps w' → Frm d G w G' w' → a'.defers = a.defers → K a' w') → o.wp P a w K Q

theorem OpOK.step {P : Program} {d N : Nat} {o : Oper} {σ σ1 : St} {v : AV} (h : ∀ (G : Gh) (w : World) (a : Act), Sim d N G σ a.tmps w → OpOK P d N G w a o σ1 v) :
    StepOK P d N o σ { σ1 with env := putD σ1.env o.dst v } := by
  intro G w a K Q hS hK
  obtain ⟨r, w', G', hr, hF, hS'⟩ := h G w a hS
  have hdef : (a.put o.dst r).defers = a.defers := by cases o.dst <;> rfl
  unfold Oper.wp
  rcases hr with hr | ⟨hr, rfl⟩
  · rw [hr]; exact hK G' _ _ hS' hF hdef
  · rw [hr]; exact hK G' _ _ hS' hF hdef

theorem wants_ok {ops : Array Oper} {o : Oper} {d N : Nat} {G : Gh} {σ : St} {w : World} {a : Act} (h : Sim d N G σ a.tmps w) {b : Bool} (hw : wants ops σ.env o = some b) : Region.wanted o (yielded ops a.tmps) = b := by
  unfold wants at hw
  unfold Region.wanted
  cases hg : o.guard with
  | none => rw [hg] at hw; simp only [Option.some.injEq] at hw; exact hw
  | some jb =>
    obtain ⟨j, want⟩ := jb
    rw [hg] at hw
    simp only [Option.bind_eq_some_iff] at hw
    obtain ⟨t, ht, hc⟩ := hw
    dsimp only
    unfold yielded
    have ht' : (ops[j]?).bind (·.dst) = some t := by simpa [Option.bind_eq_some_iff] using ht
    rw [ht']
    dsimp only [Option.bind_some]
    have hE := h.env t
    unfold wantV at hc
    split at hc
    · rename_i hsk
      rw [hsk] at hE
      obtain ⟨vs, hv, _, _⟩ := hE
      cases hc
      rw [Array.getD_eq_getD_getElem?] at hv
      cases hq : a.tmps[t]? with
      | none => rfl
      | some u =>
        rw [hq] at hv
        have hv : u = .tuple vs := hv
        subst hv
        rfl
    rw [Option.bind_eq_some_iff] at hc
    obtain ⟨c, hc, hcb⟩ := hc
    obtain rfl : (c == want) = b := by simpa using hcb
    have hv := toBool_ok hc hE
    have hval : a.tmps[t]? = some (.bool c) := by
      rw [Array.getD_eq_getD_getElem?] at hv
      cases hq : a.tmps[t]? with
      | none => rw [hq] at hv; cases hv
      | some u => rw [hq] at hv; rw [← hv]; rfl
    rw [hval]
    cases c <;> cases want <;> rfl

def postC (d N : Nat) (G : Gh) (w : World) (out : Out) : Exit → Act → World → Prop
  | .normal, a', w' => a'.defers = [] ∧ ∃ σ' G', out = .norm σ' ∧ Sim d N G' σ' a'.tmps w' ∧ Frm d G w G' w'
  | .exit id, a', w' => a'.defers = [] ∧ ∃ σ' G', out = .exit id σ' ∧ Sim d N G' σ' a'.tmps w' ∧ Frm d G w G' w'
  | .ret, a', w' => a'.defers = [] ∧ ∃ σ' G', out = .ret σ' ∧ Sim d N G' σ' a'.tmps w' ∧ Frm d G w G' w'
  | _, _, _ => False

theorem postC.trans {d N : Nat} {G G1 : Gh} {w w1 : World} {out : Out} (hF : Frm d G w G1 w1) : ∀ e a' w', postC d N G1 w1 out e a' w' → postC d N G w out e a' w' := by
  intro e a' w' h
  cases e <;> first
    | exact h
    | (obtain ⟨h0, σ', G', h1, h2, h3⟩ := h; exact ⟨h0, σ', G', h1, h2, hF.trans h3⟩)

/-- the operations of a region, in the text's order -/
theorem wpOps_run {P : Program} {d N : Nat} {ops : Array Oper} {Q : Exit → Act → World → Prop} {S : Oper → St → Option St} (hS : ∀ o ∈ ops.toList, ∀ σ σ', S o σ = some σ' → StepOK P d N o σ σ')
    (hd : ∀ o ∈ ops.toList, o.dst.all (· < N) = true) : ∀ (k i : Nat), i + k = ops.size → ∀ (G : Gh) (w : World) (a : Act) (σ σ' : St), Sim d N G σ a.tmps w → arun S ops (ops.toList.drop i) σ = some σ' →
    (∀ G' a' w', Sim d N G' σ' a'.tmps w' → Frm d G w G' w' → a'.defers = a.defers → Q .normal a' w') → wpOps P ops Q (List.range' i k) a w
  | 0, i, hi, G, w, a, σ, σ', hs, hr, hQ => by
    rw [List.drop_eq_nil_of_le (by rw [Array.length_toList]; omega)] at hr
    simp only [arun, Option.some.injEq] at hr
    subst hr
    exact hQ G a w hs (Frm.refl _ _ _) rfl
  | k + 1, i, hi, G, w, a, σ, σ', hs, hr, hQ => by
    have hlt : i < ops.toList.length := by rw [Array.length_toList]; omega
    rw [List.drop_eq_getElem_cons hlt] at hr
    simp only [arun, Option.bind_eq_some_iff] at hr
    obtain ⟨σ1, h1, h2⟩ := hr
    unfold stepG at h1
    rw [Option.bind_eq_some_iff] at h1
    obtain ⟨want, hw, h1⟩ := h1
    rw [List.range'_succ, wpOps_cons]
    have ho : ops[i]? = some ops.toList[i] := by rw [← Array.getElem?_toList]; exact List.getElem?_eq_getElem hlt
    unfold wpOp
    rw [ho]
    simp only
    rw [wants_ok hs hw]
    have hmem := List.getElem_mem hlt
    cases want with
    | true =>
      simp only [if_true] at h1 ⊢
      left
      refine hS _ hmem σ σ1 h1 G w a _ _ hs fun G' a' w' hs' hF' hdf => ?_
      exact wpOps_run hS hd k (i + 1) (by omega) G' w' a' σ1 σ' hs' h2 fun G2 a2 w2 hs2 hF2 hdf2 => hQ G2 a2 w2 hs2 (hF'.trans hF2) (hdf2.trans hdf)
    | false =>
      simp only [Bool.false_eq_true, if_false, Option.some.injEq] at h1 ⊢
      subst h1
      have hs' := hs.put (hd _ hmem) (v := .skp) (r := undef) fun _ _ => RA_skp
      refine wpOps_run hS hd k (i + 1) (by omega) G w _ _ σ' hs' h2 fun G2 a2 w2 hs2 hF2 hdf2 => hQ G2 a2 w2 hs2 hF2 (hdf2.trans ?_)
      cases ops.toList[i].dst <;> rfl

/-! calls -/
theorem run_callOp {P : Program} {w : World} {a : Act} {f : Nat} {x : Operand} {args : Array Operand} {argTypes : Array TypeId} {dst : Option Nat} {ty : TypeId} {pos : String} {after : Array Edge} {guard : Option (Nat × Bool)}
    {caps : Array Value} (hx : a.eval x = .func (.func f) #[] caps) (hE : Enters P f) :
    (execOp a.eval { dst, op := .call { callee := .value x, args, argTypes }, type := ty, pos, after, guard }).run P w = .ok (.enter f (args.map a.eval ++ caps)) w := by
  obtain ⟨fn, h1, h2, h3⟩ := hE
  have h4 : ¬ fn.body = none := by cases hb : fn.body <;> simp_all
  have h3 : ¬ fn.name = "runtime.NumGoroutine" := by simpa using h3
  simp only [execOp, resolve, hx, Deferred.ofValue, Array.empty_append]
  simp [invoke, callFunc, h1, h3, h4]

theorem calleeOf_ok {d N : Nat} {G : Gh} {σ : St} {w : World} {a : Act} (h : Sim d N G σ a.tmps w) {x : Operand} {k : Nat} {caps : List AV} (hc : calleeOf σ.env x = some (k, caps)) :
    ∃ vs : Array Value, a.eval x = .func (.func k) #[] vs ∧ ArgsOK w G caps vs := by
  unfold calleeOf at hc
  split at hc
  · rename_i f cs hx
    simp only [Option.some.injEq, Prod.mk.injEq] at hc
    obtain ⟨rfl, rfl⟩ := hc
    have hr := h.opnd x
    rw [hx] at hr
    obtain ⟨hl, vs, hv, hvs⟩ := hr
    refine ⟨vs, hv, by rw [← Array.length_toList, hvs, List.length_map, List.length_map], fun i y hi => ?_⟩
    rw [List.getElem?_map] at hi
    cases hq : cs[i]? with
    | none => rw [hq] at hi; cases hi
    | some c =>
      rw [hq] at hi
      simp only [Option.map_some, Option.some.injEq] at hi
      subst hi
      refine ⟨.pointer (some ⟨G.β c.1, c.2, none⟩), by rw [← Array.getElem?_toList, hvs, List.getElem?_map, hq]; rfl, fun _ _ => ⟨hl c (List.mem_of_getElem? hq), rfl⟩⟩
  · cases hc

theorem ArgsOK.append {w : World} {G : Gh} {as bs : List AV} {us vs : Array Value} (h1 : ArgsOK w G as us) (h2 : ArgsOK w G bs vs) : ArgsOK w G (as ++ bs) (us ++ vs) := by
  refine ⟨by rw [Array.size_append, h1.1, h2.1, List.length_append], fun i x hi => ?_⟩
  rw [List.getElem?_append] at hi
  split at hi
  · rename_i hlt
    obtain ⟨v, hv, hr⟩ := h1.2 i x hi
    exact ⟨v, by rw [Array.getElem?_append, if_pos (by rw [h1.1]; exact hlt)]; exact hv, hr⟩
  · rename_i hge
    obtain ⟨v, hv, hr⟩ := h2.2 _ x hi
    exact ⟨v, by rw [Array.getElem?_append, if_neg (by rw [h1.1]; exact hge), h1.1]; exact hv, hr⟩

theorem ArgsOK.operands {d N : Nat} {G : Gh} {σ : St} {w : World} {a : Act} (h : Sim d N G σ a.tmps w) (args : Array Operand) :
    ArgsOK w G (args.toList.map fun y => (opnd σ.env y).copy) (args.map a.eval) := by
  refine ⟨by simp, fun i x hi => ?_⟩
  rw [List.getElem?_map, Array.getElem?_toList] at hi
  cases hq : args[i]? with
  | none => rw [hq] at hi; cases hi
  | some y =>
    rw [hq] at hi
    simp only [Option.map_some, Option.some.injEq] at hi
    subst hi
    exact ⟨a.eval y, by rw [Array.getElem?_map, hq]; rfl, fun _ _ => RA_copy (h.opnd y)⟩

/-- what a callee hands back goes to a slot -/
theorem call_step {P : Program} {d N : Nat} {o : Oper} {σ : St} (hd : o.dst.all (· < N) = true) {x : Operand} {args : Array Operand} {argTypes : Array TypeId} (ho : o.op = .call { callee := .value x, args, argTypes })
    {k : Nat} {caps : List AV} (hc : calleeOf σ.env x = some (k, caps)) {r : AV} {mem' : Mem} (hcall : CallOK P d k (args.toList.map (fun y => (opnd σ.env y).copy) ++ caps) σ.mem mem' r) :
    StepOK P d N o σ { env := putD σ.env o.dst r, mem := mem' } := by
  intro G w a K Q hS hK
  obtain ⟨vs, hv, hcap⟩ := calleeOf_ok hS hc
  obtain ⟨hE, hcalls⟩ := hcall
  have hA := (ArgsOK.operands hS args).append hcap
  have hC := hcalls G w _ hA hS.memOK
  obtain ⟨dst, op, ty, pos, after, guard⟩ := o
  simp only at ho hd ⊢
  subst ho
  unfold Oper.wp
  rw [run_callOp hv hE]
  show Calls P k _ w _
  refine hC.mono fun e w' he => ?_
  obtain ⟨v, G', rfl, hR, hM, hF⟩ := he
  simp only
  -- the caller's frame
  have hFd : Frm d G w G' w' :=
    { size := hF.size, kept := hF.kept, age := fun b hb ha => hF.age b hb (by omega), box := fun b hb ha => hF.box b hb (by omega), use := fun b hb ha => hF.use b hb (by omega), cell := fun b off hb ha => hF.cell b off hb (by omega), live := fun k hk hkd => hF.live k hk (by omega)
      same := fun b hb ht => hF.same b hb fun hh => ht (by
        cases hg : G.own b with
        | none => rw [hg] at hh; exact hh
        | some t =>
          rw [hg] at hh
          cases t with
          | foreign => exact hh
          | box k => trivial
          | «at» o q =>
            cases o with
            | slot d' t' => exact Nat.le_of_succ_le hh
            | cell k => trivial
            | ret => trivial) }
  have henv : ∀ t, RA w' G' (.slot d t) (σ.env t) (a.tmps.getD t undef) := fun t => by
    have hh : Hands w G w' G' (.slot d t) [] (.slot d t) [] fun _ => false := Frm.hands hF (fun r hh => by have : d + 1 ≤ d := hh; omega) (fun b _ => Nat.lt_succ_of_le (hS.age b)) (fun k hk _ => hF.live k hk (by have := hS.dep k hk; omega))
    exact hh.ra0 (hS.env t)
  have hS1 : Sim d N G' { σ with mem := mem' } a.tmps w' := hM.sim hS.sz henv
  have hdef : (a.put dst v).defers = a.defers := by cases dst <;> rfl
  cases dst with
  | none => exact hK G' _ w' hS1 hFd hdef
  | some t =>
    have hφ : RenOK d (mvT .ret (.slot d t)) := mvT_ok trivial (Nat.le_refl d)
    have hS2 := hS1.ren hφ σ.env mem' (fun t2 => .inr ⟨rfl, fun q => by simp [mvT]⟩) (Sim.memSame (σ := { σ with mem := mem' }) _ fun k q => by simp [mvT]) (fun o p k q hq => by
      left
      simp only [mvT] at hq
      split at hq
      · cases hq
      · simp only [Tag.at.injEq] at hq; exact ⟨k, hq.1, rfl⟩)
    have hR2 : RA w' (Ev.ren G' (mvT .ret (.slot d t))) (.slot d t) r v := (hφ.hands G' w' (p := []) (p' := []) fun q => by simp [mvT]).ra0 hR
    have hS3 := hS2.put (a := a) (dst := some t) hd (v := r) (r := v) fun t' ht' => by cases ht'; exact hR2
    exact hK _ _ w' hS3 (hFd.trans (hφ.frm G' w')) hdef

end Go.Ev
