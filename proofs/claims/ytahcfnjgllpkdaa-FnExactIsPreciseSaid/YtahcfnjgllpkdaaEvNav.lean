import Derived.Test.YtahcfnjgllpkdaaEvRun5
set_option linter.unusedSimpArgs false
set_option linter.unusedVariables false
set_option linter.unnecessarySimpa false
namespace Go.Ev

theorem callo_fn {g : Cfg} {d f : Nat} {args : List AV} {mem : Mem} {fn : Func} {c : Code} (h0 : lookN f g.ctx = none) (h1 : g.P.funcs[f]? = some fn) (h2 : fn.body = some c) (h3 : fnOK g f fn = true) (h4 : args.length ≤ fn.ntmps) :
    callo g d f args mem = (evo g (d + 1) f c { env := fun t => (args[t]?).getD .dead, mem }).bind fun out => out.done.bind fun σ => (ghoAt g (d + 1) f atEnd σ).bind fun σ =>
      (retVal g.P (d + 1) fn σ).bind fun r => some (r.kill (fun k => d < k.1), memKill (fun k => d < k.1) σ.mem) := by
  rw [callo_eq, h0]
  simp only [h1, h2, h3]
  have : ¬ args.length > fn.ntmps := by omega
  simp [this]

/-- what one round of a loop must give -/
def Round {ι : Type} (d : Nat) (k : Kp) (S : ι → St) (O : ι → Out) (μ : ι → Nat) (i : ι) : Option Out → Prop
  | some (.norm σ') => ∃ j, μ j < μ i ∧ restrict d σ' (k.hd, k.bx) = S j ∧ O j = O i
  | some (.exit id σ') => .exit id (restrict d σ' (k.ex, k.bx)) = O i
  | some (.ret σ') => .ret (restrict d σ' (k.rt, k.bx)) = O i
  | none => False

theorem loop_ind {ι : Type} (S : ι → St) (O : ι → Out) (μ : ι → Nat) {g : Cfg} {d f : Nat} {c : Code} {k : Kp} (i : ι) {σ : St} (hk : lookK (f, rid c) g.keep = some k) (hσ : restrict d σ (k.hd, k.bx) = S i)
    (h : ∀ i, Round d k S O μ i (evo g d f c (S i))) : evo g d f (.loop c) σ = some (O i) := by
  have key : ∀ n i σ, μ i = n → restrict d σ (k.hd, k.bx) = S i → evo g d f (.loop c) σ = some (O i) := by
    intro n
    induction n using Nat.strongRecOn with
    | _ n ih =>
      intro i σ hn hσ
      rw [evo_loop, hk, Option.bind_some, hσ]
      have hr := h i
      cases ho : evo g d f c (S i) with
      | none => rw [ho] at hr; exact hr.elim
      | some o =>
        rw [ho] at hr
        rw [Option.bind_some]
        cases o with
        | norm σ' =>
          obtain ⟨j, h1, h2, h3⟩ := hr
          rw [← h3]
          exact ih (μ j) (by omega) j σ' rfl h2
        | exit id σ' => rw [← show Out.exit id (restrict d σ' (k.ex, k.bx)) = O i from hr]; rfl
        | ret σ' => rw [← show Out.ret (restrict d σ' (k.rt, k.bx)) = O i from hr]; rfl
  exact key (μ i) i σ rfl hσ

/-- slots, told one by one -/
def envL : List (Nat × AV) → Nat → AV
  | [], _ => .dead
  | (t, x) :: r, u => if u = t then x else envL r u

theorem upd_get {α β : Type} [DecidableEq α] (f : α → β) (a : α) (b : β) (x : α) : upd f a b x = if x = a then b else f x := rfl

theorem envL_nil (u : Nat) : envL [] u = .dead := rfl
theorem envL_cons (t u : Nat) (x : AV) (r : List (Nat × AV)) : envL ((t, x) :: r) u = if u = t then x else envL r u := rfl

/-- no box deeper than d -/
def Flat (d : Nat) (mem : Mem) : Prop := ∀ k, d < k.1 → mem k = none

theorem envL_of (env : Nat → AV) : ∀ (ts : List Nat), (fun t => if t ∈ ts then env t else AV.dead) = envL (ts.map fun t => (t, env t))
  | [] => by funext t; simp [envL]
  | u :: r => by
    funext t
    simp only [List.map_cons, envL]
    by_cases h : t = u
    · subst h; simp
    · simp only [h, if_false, List.mem_cons, false_or]
      exact congrFun (envL_of env r) t

theorem restrict_eq (d : Nat) (σ : St) (ts bs : List Nat) :
    restrict d σ (ts, bs) = { env := envL (ts.map fun t => (t, (σ.env t).kill (fun x => x.1 == d && bs.contains x.2))), mem := memKill (fun x => x.1 == d && bs.contains x.2) σ.mem } := by
  unfold restrict
  congr 1
  exact envL_of (fun t => (σ.env t).kill _) ts

theorem memKill_none (mem : Mem) : memKill (fun _ => false) mem = mem := by
  funext k
  unfold memKill
  simp only [Bool.false_eq_true, if_false]
  cases mem k with
  | none => rfl
  | some cs => simp [map_kill_none]

/-- with no box to be dropped -/
theorem restrict_nil (d : Nat) (σ : St) (ts : List Nat) : restrict d σ (ts, []) = { env := envL (ts.map fun t => (t, σ.env t)), mem := σ.mem } := by
  rw [restrict_eq]
  have : (fun x : Key => x.1 == d && ([] : List Nat).contains x.2) = fun _ => false := by funext x; simp
  rw [this, memKill_none]
  congr 2
  exact List.map_congr_left fun t _ => by rw [AV.kill_none]

/-! scalar steps, for rewriting -/
abbrev vI (n : Int) : AV := .one (.s (.int .i64 n))
abbrev vB (b : Bool) : AV := .one (.s (.bool b))
abbrev dI (n : Int) : D := .sc (.int .i64 n)

theorem vI_copy (n : Int) : (vI n).copy = vI n := rfl
theorem vB_copy (n : Bool) : (vB n).copy = vB n := rfl


def binAV (P : Program) (op : BinOp) (t : TypeId) (x y : Operand) (X Y : AV) : Option Value :=
  if (sclr X).isSome && (sclr Y).isSome then
    match pureOf P (do eqGuard op t x y ((sclr X).getD undef) ((sclr Y).getD undef); binOp op t ((sclr X).getD undef) ((sclr Y).getD undef)) with
    | some v => if scal v then some v else none
    | none => none
  else none

def unAV (P : Program) (op : UnOp) (X : AV) : Option Value :=
  if (sclr X).isSome then
    match pureOf P (Op.unary op ((sclr X).getD undef)) with
    | some v => if scal v then some v else none
    | none => none
  else none

theorem pureOf_bind {α β : Type} (P : Program) (k : α → Sem β) : ∀ (s : Sem α), pureOf P (s >>= k) = (pureOf P s).bind fun a => pureOf P (k a)
  | .pure a => rfl
  | .program q => by
    have := pureOf_bind P k (q P)
    show pureOf P (q P >>= k) = _
    rw [this]
    rfl
  | .load .. => rfl
  | .store .. => rfl
  | .new .. => rfl
  | .shape .. => rfl
  | .freeze .. => rfl
  | .frozen .. => rfl
  | .getObj .. => rfl
  | .setObj .. => rfl
  | .choose .. => rfl
  | .sys .. => rfl
  | .mark .. => rfl
  | .halt .. => rfl

section
variable (g : Cfg) (d f : Nat) (σ : St) (dst : Option Nat) (pos : String) (after : Array Edge) (ty : TypeId) (guard : Option (Nat × Bool)) (t t2 : Nat) (x y : Operand)

theorem opE_binOp (op : BinOp) : opE g d f { dst, op := .binOp op t x y t2, type := ty, pos, after, guard } σ = (binAV g.P op t x y (opnd σ.env x) (opnd σ.env y)).map fun v => (.one (.s v), σ) := by
  have : scalarOp g.P σ.env { dst, op := .binOp op t x y t2, type := ty, pos, after, guard } = binAV g.P op t x y (opnd σ.env x) (opnd σ.env y) := by
    unfold scalarOp binAV
    have h1 : (Op.binOp op t x y t2).operands.all (fun x => (sclr (opnd σ.env x)).isSome) = ((sclr (opnd σ.env x)).isSome && (sclr (opnd σ.env y)).isSome) := by
      simp [Op.operands]
    simp only [h1]
    split
    · simp only [execOp, pureOf_bind]
      cases h : (pureOf g.P (eqGuard op t x y ((sclr (opnd σ.env x)).getD undef) ((sclr (opnd σ.env y)).getD undef))) with
      | none => simp
      | some u =>
        simp only [Option.bind_some]
        cases h2 : pureOf g.P (binOp op t ((sclr (opnd σ.env x)).getD undef) ((sclr (opnd σ.env y)).getD undef)) with
        | none => simp
        | some v => rfl
    · rfl
  simp only [opE, this]
  cases binAV g.P op t x y (opnd σ.env x) (opnd σ.env y) <;> rfl

theorem opE_unOp (op : UnOp) : opE g d f { dst, op := .unOp op t x, type := ty, pos, after, guard } σ = (unAV g.P op (opnd σ.env x)).map fun v => (.one (.s v), σ) := by
  have : scalarOp g.P σ.env { dst, op := .unOp op t x, type := ty, pos, after, guard } = unAV g.P op (opnd σ.env x) := by
    unfold scalarOp unAV
    have h1 : (Op.unOp op t x).operands.all (fun x => (sclr (opnd σ.env x)).isSome) = (sclr (opnd σ.env x)).isSome := by
      simp [Op.operands]
    simp only [h1]
    split
    · simp only [execOp, pureOf_bind]
      cases h2 : pureOf g.P (Op.unary op ((sclr (opnd σ.env x)).getD undef)) with
      | none => simp
      | some v => rfl
    · rfl
  simp only [opE, this]
  cases unAV g.P op (opnd σ.env x) <;> rfl
end

section
variable (P : Program) (t : TypeId) (x y : Operand) (a b : Int)
theorem bin_add : binAV P .add t x y (vI a) (vI b) = some (.int .i64 (IntKind.i64.wrap (a + b))) := by
  simp [binAV, sclr, eqGuard, binOp, Op.intArith, pureOf, pure, bind, Sem.bind, scal]
theorem bin_sub : binAV P .sub t x y (vI a) (vI b) = some (.int .i64 (IntKind.i64.wrap (a - b))) := by
  simp [binAV, sclr, eqGuard, binOp, Op.intArith, pureOf, pure, bind, Sem.bind, scal]
theorem bin_mul : binAV P .mul t x y (vI a) (vI b) = some (.int .i64 (IntKind.i64.wrap (a * b))) := by
  simp [binAV, sclr, eqGuard, binOp, Op.intArith, pureOf, pure, bind, Sem.bind, scal]
theorem bin_eql : binAV P .eql t x y (vI a) (vI b) = some (.bool (decide (a = b))) := by
  simp [binAV, sclr, eqGuard, binOp, Op.intCmp, pureOf, pure, bind, Sem.bind, scal]
  by_cases h : a = b <;> simp [h]
theorem bin_neq : binAV P .neq t x y (vI a) (vI b) = some (.bool (!decide (a = b))) := by
  simp [binAV, sclr, eqGuard, binOp, Op.intCmp, pureOf, pure, bind, Sem.bind, scal]
  by_cases h : a = b <;> simp [h]
theorem bin_lss : binAV P .lss t x y (vI a) (vI b) = some (.bool (decide (a < b))) := by
  simp [binAV, sclr, eqGuard, binOp, Op.intCmp, pureOf, pure, bind, Sem.bind, scal]
theorem bin_leq : binAV P .leq t x y (vI a) (vI b) = some (.bool (decide (a ≤ b))) := by
  simp [binAV, sclr, eqGuard, binOp, Op.intCmp, pureOf, pure, bind, Sem.bind, scal]
theorem bin_gtr : binAV P .gtr t x y (vI a) (vI b) = some (.bool (decide (b < a))) := by
  simp [binAV, sclr, eqGuard, binOp, Op.intCmp, pureOf, pure, bind, Sem.bind, scal]
theorem bin_geq : binAV P .geq t x y (vI a) (vI b) = some (.bool (decide (b ≤ a))) := by
  simp [binAV, sclr, eqGuard, binOp, Op.intCmp, pureOf, pure, bind, Sem.bind, scal]
theorem un_not (c : Bool) : unAV P .not (vB c) = some (.bool (!c)) := by
  simp [unAV, sclr, Op.unary, pureOf, pure, scal]
end

abbrev vS (s : ByteArray) : AV := .one (.s (.string s))
section
variable (P : Program) (t : TypeId) (x y : Operand) (a b : ByteArray)
theorem bin_eqlS : binAV P .eql t x y (vS a) (vS b) = some (.bool (a.toList == b.toList)) := by
  simp [binAV, sclr, eqGuard, binOp, Op.stringOp, pureOf, pure, bind, Sem.bind, scal]
theorem bin_neqS : binAV P .neq t x y (vS a) (vS b) = some (.bool (!(a.toList == b.toList))) := by
  simp [binAV, sclr, eqGuard, binOp, Op.stringOp, pureOf, pure, bind, Sem.bind, scal]
end

end Go.Ev
