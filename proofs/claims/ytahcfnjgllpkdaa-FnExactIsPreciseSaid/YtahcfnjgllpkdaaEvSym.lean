import Derived.Test.YtahcfnjgllpkdaaEvNav
set_option linter.unusedSimpArgs false
set_option linter.unusedVariables false
set_option linter.unnecessarySimpa false
namespace Go.Ev

/-! RUNNING CODE BY REWRITING: what is still to be done is data, so that nothing is rewritten ahead of its time. -/
inductive It where
  | code (c : Code)
  | blk (id : Nat)
  | gho (l : List Gho)

noncomputable def runK (g : Cfg) (d f : Nat) : List It → Out → Option Out
  | [], o => some o
  | .code c :: K, .norm σ => (evo g d f c σ).bind (runK g d f K)
  | .code _ :: K, .exit id σ => runK g d f K (.exit id σ)
  | .code _ :: K, .ret σ => runK g d f K (.ret σ)
  | .blk id :: K, o => runK g d f K (o.blk id)
  | .gho l :: K, .norm σ => (ghoL d l σ).bind fun σ => runK g d f K (.norm σ)
  | .gho _ :: K, .exit id σ => runK g d f K (.exit id σ)
  | .gho _ :: K, .ret σ => runK g d f K (.ret σ)

noncomputable def evk (g : Cfg) (d f : Nat) (c : Code) (K : List It) (σ : St) : Option Out := (evo g d f c σ).bind (runK g d f K)
noncomputable def opsK (g : Cfg) (d f : Nat) (ops : Array Oper) (l : List Oper) (K : List It) (σ : St) : Option Out := (opso g d f ops l σ).bind fun σ' => runK g d f K (.norm σ')
noncomputable def gK (g : Cfg) (d f : Nat) (ops : Array Oper) (want : Option Bool) (o : Oper) (l : List Oper) (K : List It) (σ : St) : Option Out :=
  want.bind fun w => if w then (stepo g d f o σ).bind fun σ' => opsK g d f ops l K σ' else opsK g d f ops l K { σ with env := putD σ.env o.dst .skp }
noncomputable def stK (g : Cfg) (d f : Nat) (ops : Array Oper) (o : Oper) (l : List Oper) (K : List It) (σ : St) : Option Out := (stepo g d f o σ).bind fun σ' => opsK g d f ops l K σ'
/-- an operation's answer, put into its slot -/
noncomputable def putK (g : Cfg) (d f : Nat) (ops : Array Oper) (dst : Option Nat) (l : List Oper) (K : List It) (r : Option (AV × St)) : Option Out :=
  r.bind fun vs => opsK g d f ops l K { vs.2 with env := putD vs.2.env dst vs.1 }

variable {g : Cfg} {d f : Nat}

theorem evo_evk (c : Code) (σ : St) : evo g d f c σ = evk g d f c [] σ := by
  unfold evk
  cases evo g d f c σ <;> rfl

theorem k_seq (a b : Code) (K : List It) (σ : St) : evk g d f (.seq a b) K σ = evk g d f a (.code b :: K) σ := by
  unfold evk
  rw [evo_seq]
  cases evo g d f a σ with
  | none => rfl
  | some o => cases o <;> rfl
theorem k_block (id : Nat) (a : Code) (K : List It) (σ : St) : evk g d f (.block id a) K σ = evk g d f a (.blk id :: K) σ := by
  unfold evk
  rw [evo_block]
  cases evo g d f a σ with
  | none => rfl
  | some o => rfl
theorem k_skip (K : List It) (σ : St) : evk g d f .skip K σ = runK g d f K (.norm σ) := by
  unfold evk; rw [evo_skip]; rfl
theorem k_exit (id : Nat) (K : List It) (σ : St) : evk g d f (.exit id) K σ = runK g d f K (.exit id σ) := by
  unfold evk; rw [evo_exit]; rfl
theorem k_ret (K : List It) (σ : St) : evk g d f .ret K σ = runK g d f K (.ret σ) := by
  unfold evk; rw [evo_ret]; rfl
theorem r_nil (o : Out) : runK g d f [] o = some o := by rw [runK]
theorem r_norm (c : Code) (K : List It) (σ : St) : runK g d f (.code c :: K) (.norm σ) = evk g d f c K σ := by rw [runK]; rfl
theorem r_exit (c : Code) (K : List It) (id : Nat) (σ : St) : runK g d f (.code c :: K) (.exit id σ) = runK g d f K (.exit id σ) := by rw [runK]
theorem r_ret (c : Code) (K : List It) (σ : St) : runK g d f (.code c :: K) (.ret σ) = runK g d f K (.ret σ) := by rw [runK]
theorem r_blkN (id : Nat) (K : List It) (σ : St) : runK g d f (.blk id :: K) (.norm σ) = runK g d f K (.norm σ) := by rw [runK]; rfl
theorem r_blkR (id : Nat) (K : List It) (σ : St) : runK g d f (.blk id :: K) (.ret σ) = runK g d f K (.ret σ) := by rw [runK]; rfl
theorem r_blkE (id id' : Nat) (K : List It) (σ : St) : runK g d f (.blk id :: K) (.exit id' σ) = if id' = id then runK g d f K (.norm σ) else runK g d f K (.exit id' σ) := by
  rw [runK]; unfold Out.blk; simp only; split <;> rfl

def condV : AV → Option Bool := toBool
theorem condV_b (b : Bool) : condV (vB b) = some b := rfl
noncomputable def condK (g : Cfg) (d f : Nat) (v : AV) (a b : Code) (K : List It) (σ : St) : Option Out := (toBool v).bind fun t => if t then evk g d f a K σ else evk g d f b K σ
theorem condK_b (t : Bool) (a b : Code) (K : List It) (σ : St) : condK g d f (.one (.s (.bool t))) a b K σ = if t = true then evk g d f a K σ else evk g d f b K σ := rfl
theorem k_cond (x : Operand) (a b : Code) (K : List It) (σ : St) : evk g d f (.cond x a b) K σ = condK g d f (opnd σ.env x) a b K σ := by
  unfold evk condK
  rw [evo_cond]
  cases toBool (opnd σ.env x) with
  | none => rfl
  | some t => cases t <;> rfl

noncomputable def ghoK (g : Cfg) (d f : Nat) (l : List Gho) (ops : Array Oper) (K : List It) (σ : St) : Option Out := (ghoL d l σ).bind fun σ => opsK g d f ops ops.toList K σ
def behK (l : List Gho) (K : List It) : List It := match l with
  | [] => K
  | l => .gho l :: K
theorem behK_nil (K : List It) : behK [] K = K := rfl
theorem behK_cons (x : Gho) (l : List Gho) (K : List It) : behK (x :: l) K = .gho (x :: l) :: K := rfl
theorem r_gho (l : List Gho) (K : List It) (σ : St) : runK g d f (.gho l :: K) (.norm σ) = (ghoL d l σ).bind fun σ => runK g d f K (.norm σ) := by rw [runK]
theorem r_behK (l : List Gho) (K : List It) (σ : St) : runK g d f (behK l K) (.norm σ) = (ghoL d l σ).bind fun σ => runK g d f K (.norm σ) := by
  cases l with
  | nil => rfl
  | cons x l => rw [behK_cons, r_gho]
theorem k_region (id : Nat) (ops : Array Oper) (draw : Bool) (K : List It) (σ : St) : evk g d f (.region id ops draw) K σ = ghoK g d f ((lookK (f, id) g.gho).getD []) ops (behK ((lookK (f, behind id) g.gho).getD []) K) σ := by
  unfold evk ghoK
  rw [evo_region]
  have hg : ∀ i σ, ghoAt g d f i σ = ghoL d ((lookK (f, i) g.gho).getD []) σ := fun i σ => by
    unfold ghoAt
    cases lookK (f, i) g.gho <;> rfl
  rw [hg]
  cases ghoL d ((lookK (f, id) g.gho).getD []) σ with
  | none => rfl
  | some σ1 =>
    simp only [Option.bind_some]
    unfold opsK
    cases opso g d f ops ops.toList σ1 with
    | none => rfl
    | some σ2 =>
      simp only [Option.bind_some]
      rw [hg, r_behK]
      cases ghoL d ((lookK (f, behind id) g.gho).getD []) σ2 <;> rfl
theorem ghoK_cons (x : Gho) (l : List Gho) (ops : Array Oper) (K : List It) (σ : St) : ghoK g d f (x :: l) ops K σ = (gho1 d σ x).bind fun σ => ghoK g d f l ops K σ := by
  unfold ghoK
  rw [ghoL]
  cases gho1 d σ x <;> rfl
theorem ghoK_nil (ops : Array Oper) (K : List It) (σ : St) : ghoK g d f [] ops K σ = opsK g d f ops ops.toList K σ := rfl

theorem o_nil (ops : Array Oper) (K : List It) (σ : St) : opsK g d f ops [] K σ = runK g d f K (.norm σ) := by
  unfold opsK; rw [opso_nil]; rfl
theorem o_cons (ops : Array Oper) (o : Oper) (l : List Oper) (K : List It) (σ : St) : opsK g d f ops (o :: l) K σ = gK g d f ops (wants ops σ.env o) o l K σ := by
  unfold opsK gK
  rw [opso_cons]
  cases wants ops σ.env o with
  | none => rfl
  | some w =>
    cases w with
    | true =>
      simp only [Option.bind_some, if_true]
      cases stepo g d f o σ <;> rfl
    | false => rfl
theorem g_true (ops : Array Oper) (o : Oper) (l : List Oper) (K : List It) (σ : St) : gK g d f ops (some true) o l K σ = stK g d f ops o l K σ := rfl
theorem g_false (ops : Array Oper) (o : Oper) (l : List Oper) (K : List It) (σ : St) : gK g d f ops (some false) o l K σ = opsK g d f ops l K { σ with env := putD σ.env o.dst .skp } := rfl
theorem g_if (ops : Array Oper) (b : Bool) (o : Oper) (l : List Oper) (K : List It) (σ : St) : gK g d f ops (some b) o l K σ = if b = true then stK g d f ops o l K σ else opsK g d f ops l K { σ with env := putD σ.env o.dst .skp } := by cases b <;> rfl

theorem st_op (ops : Array Oper) (o : Oper) (l : List Oper) (K : List It) (σ : St) (h : ∀ x args argTypes, o.op ≠ .call { callee := .value x, args, argTypes }) : stK g d f ops o l K σ = putK g d f ops o.dst l K (opE g d f o σ) := by
  unfold stK putK stepo
  rw [stepW_op h]
  cases opE g d f o σ <;> rfl
theorem putK_some (ops : Array Oper) (dst : Option Nat) (l : List Oper) (K : List It) (v : AV) (σ : St) : putK g d f ops dst l K (some (v, σ)) = opsK g d f ops l K { σ with env := putD σ.env dst v } := rfl

/-- a call's answer -/
noncomputable def retK (g : Cfg) (d f : Nat) (ops : Array Oper) (dst : Option Nat) (l : List Oper) (K : List It) (env : Nat → AV) (r : Option (AV × Mem)) : Option Out :=
  r.bind fun rm => opsK g d f ops l K { env := putD env dst rm.1, mem := rm.2 }
theorem retK_some (ops : Array Oper) (dst : Option Nat) (l : List Oper) (K : List It) (env : Nat → AV) (r : AV) (m : Mem) : retK g d f ops dst l K env (some (r, m)) = opsK g d f ops l K { env := putD env dst r, mem := m } := rfl

section
variable (dst : Option Nat) (pos : String) (after : Array Edge) (ty : TypeId) (guard : Option (Nat × Bool)) (t t2 : Nat) (ops : Array Oper) (l : List Oper) (K : List It) (σ : St)

theorem s_move (x : Operand) (h : g.tk f dst = false) : stK g d f ops { dst, op := .move x, type := ty, pos, after, guard } l K σ = opsK g d f ops l K { σ with env := putD σ.env dst (opnd σ.env x).copy } := by
  rw [st_op _ _ _ _ _ (by simp)]
  simp [opE, h, putK]
theorem s_assign (x : Operand) : stK g d f ops { dst, op := .assign x, type := ty, pos, after, guard } l K σ = opsK g d f ops l K { σ with env := putD (kil σ.env x) dst (opnd σ.env x) } := by
  rw [st_op _ _ _ _ _ (by simp)]
  rfl
theorem s_bin (op : BinOp) (x y : Operand) : stK g d f ops { dst, op := .binOp op t x y t2, type := ty, pos, after, guard } l K σ = putK g d f ops dst l K ((binAV g.P op t x y (opnd σ.env x) (opnd σ.env y)).map fun v => (.one (.s v), σ)) := by
  rw [st_op _ _ _ _ _ (by simp), opE_binOp]
theorem s_un (op : UnOp) (x : Operand) : stK g d f ops { dst, op := .unOp op t x, type := ty, pos, after, guard } l K σ = putK g d f ops dst l K ((unAV g.P op (opnd σ.env x)).map fun v => (.one (.s v), σ)) := by
  rw [st_op _ _ _ _ _ (by simp), opE_unOp]

def lenAV (P : Program) (σ : St) (o : Oper) (t : Option TypeId) : AV → Option Value
  | .one (.l _ n _) => t.bind fun t => (ti P t).bind fun i => i.elem.bind fun _ => some (.int .i64 n)
  | .one (.bs _ n _) => t.bind fun t => (ti P t).bind fun i => i.elem.bind fun _ => some (.int .i64 n)
  | _ => scalarOp P σ.env o
theorem s_len (x : Operand) : stK g d f ops { dst, op := .call { callee := .builtin .len, args := #[x], argTypes := #[t] }, type := ty, pos, after, guard } l K σ =
    putK g d f ops dst l K ((lenAV g.P σ { dst, op := .call { callee := .builtin .len, args := #[x], argTypes := #[t] }, type := ty, pos, after, guard } (some t) (opnd σ.env x)).map fun v => (.one (.s v), σ)) := by
  rw [st_op _ _ _ _ _ (by simp)]
  congr 1
  simp only [opE, List.map_cons, List.map_nil, lenAV]
  cases hx : opnd σ.env x with
  | one c =>
    cases c with
    | l m n cs =>
      simp only [bind]
      cases hti : ti g.P t with
      | none => simp [hti]
      | some i => cases he : i.elem <;> simp [hti, he]
    | bs k n sz =>
      simp only [bind]
      cases hti : ti g.P t with
      | none => simp [hti]
      | some i => cases he : i.elem <;> simp [hti, he]
    | _ => simp [bind, Option.map_eq_bind, Function.comp_def]
  | _ => simp [bind, Option.map_eq_bind, Function.comp_def]

def ctxCall (F : List AV → Option AV) (args : List AV) (mem : Mem) : Option (AV × Mem) :=
  (args.mapM AV.lend).bind fun la => (F la).bind fun r => if (r.own? || (r.data? && args.all AV.shr?)) = true then some (r, mem) else none

theorem s_callC (k : Nat) (args : Array Operand) (argTypes : Array TypeId) {F : List AV → Option AV} (h : lookN k g.ctx = some F) :
    stK g d f ops { dst, op := .call { callee := .value (.func k), args, argTypes }, type := ty, pos, after, guard } l K σ =
    retK g d f ops dst l K σ.env (ctxCall F (args.toList.map fun y => (opnd σ.env y).copy) σ.mem) := by
  unfold stK stepo retK ctxCall
  rw [stepW_call rfl]
  have hc : calleeOf σ.env (.func k) = some (k, []) := rfl
  rw [hc]
  simp only [Option.bind_some, List.append_nil]
  rw [callo_eq, h]
  simp only
  cases (args.toList.map fun y => (opnd σ.env y).copy).mapM AV.lend with
  | none => rfl
  | some la =>
    simp only [Option.bind_some]
    cases F la with
    | none => rfl
    | some r =>
      simp only [Option.bind_some]
      split <;> rfl

/-- a call of a function without a contract, or of a closure -/
noncomputable def callK (g : Cfg) (d f : Nat) (ops : Array Oper) (dst : Option Nat) (l : List Oper) (K : List It) (σ : St) (args : List AV) : Option (Nat × List AV) → Option Out
  | some (k, caps) => retK g d f ops dst l K σ.env (callo g d k (args ++ caps) σ.mem)
  | none => none
theorem s_call (x : Operand) (args : Array Operand) (argTypes : Array TypeId) :
    stK g d f ops { dst, op := .call { callee := .value x, args, argTypes }, type := ty, pos, after, guard } l K σ =
    callK g d f ops dst l K σ (args.toList.map fun y => (opnd σ.env y).copy) (calleeOf σ.env x) := by
  unfold stK stepo
  rw [stepW_call rfl]
  cases hc : calleeOf σ.env x with
  | none => rfl
  | some kc =>
    obtain ⟨k, caps⟩ := kc
    simp only [Option.bind_some, callK, retK]
    cases callo g d k (args.toList.map (fun y => (opnd σ.env y).copy) ++ caps) σ.mem <;> rfl

theorem s_pick (x y z : Operand) : stK g d f ops { dst, op := .pick x y z, type := ty, pos, after, guard } l K σ = putK g d f ops dst l K ((toBool (opnd σ.env x)).map fun b => ((opnd σ.env (if b then y else z)).copy, σ)) := by
  rw [st_op _ _ _ _ _ (by simp)]
  simp only [opE, bind]
  cases toBool (opnd σ.env x) <;> rfl
theorem s_extract (x : Operand) (i : Nat) : stK g d f ops { dst, op := .extract x i, type := ty, pos, after, guard } l K σ = putK g d f ops dst l K (opE g d f { dst, op := .extract x i, type := ty, pos, after, guard } σ) := st_op _ _ _ _ _ (by simp)
theorem s_alloc (e : TypeId) : stK g d f ops { dst, op := .alloc e, type := ty, pos, after, guard } l K σ = putK g d f ops dst l K (opE g d f { dst, op := .alloc e, type := ty, pos, after, guard } σ) := st_op _ _ _ _ _ (by simp)
theorem s_box (e : TypeId) (x : Operand) : stK g d f ops { dst, op := .box e x, type := ty, pos, after, guard } l K σ = putK g d f ops dst l K (opE g d f { dst, op := .box e x, type := ty, pos, after, guard } σ) := st_op _ _ _ _ _ (by simp)
theorem s_load (a : Operand) : stK g d f ops { dst, op := .load t a, type := ty, pos, after, guard } l K σ = putK g d f ops dst l K (opE g d f { dst, op := .load t a, type := ty, pos, after, guard } σ) := st_op _ _ _ _ _ (by simp)
theorem s_store (a x : Operand) : stK g d f ops { dst, op := .store t a x, type := ty, pos, after, guard } l K σ = putK g d f ops dst l K (opE g d f { dst, op := .store t a x, type := ty, pos, after, guard } σ) := st_op _ _ _ _ _ (by simp)
theorem s_nilCheck (x : Operand) : stK g d f ops { dst, op := .nilCheck x, type := ty, pos, after, guard } l K σ = putK g d f ops dst l K (opE g d f { dst, op := .nilCheck x, type := ty, pos, after, guard } σ) := st_op _ _ _ _ _ (by simp)
theorem s_fieldAddr (x : Operand) (i : Nat) : stK g d f ops { dst, op := .fieldAddr t x i, type := ty, pos, after, guard } l K σ = putK g d f ops dst l K (opE g d f { dst, op := .fieldAddr t x i, type := ty, pos, after, guard } σ) := st_op _ _ _ _ _ (by simp)
theorem s_field (x : Operand) (i : Nat) : stK g d f ops { dst, op := .field t x i, type := ty, pos, after, guard } l K σ = putK g d f ops dst l K (opE g d f { dst, op := .field t x i, type := ty, pos, after, guard } σ) := st_op _ _ _ _ _ (by simp)
theorem s_indexAddr (x i : Operand) : stK g d f ops { dst, op := .indexAddr t x i, type := ty, pos, after, guard } l K σ = putK g d f ops dst l K (opE g d f { dst, op := .indexAddr t x i, type := ty, pos, after, guard } σ) := st_op _ _ _ _ _ (by simp)
theorem s_build (ps : Array (Nat × Operand)) : stK g d f ops { dst, op := .build t ps, type := ty, pos, after, guard } l K σ = putK g d f ops dst l K (opE g d f { dst, op := .build t ps, type := ty, pos, after, guard } σ) := st_op _ _ _ _ _ (by simp)
theorem s_buildSlice (n : Nat) (ps : Array (Nat × Operand)) : stK g d f ops { dst, op := .buildSlice t n ps, type := ty, pos, after, guard } l K σ = putK g d f ops dst l K (opE g d f { dst, op := .buildSlice t n ps, type := ty, pos, after, guard } σ) := st_op _ _ _ _ _ (by simp)
theorem s_slice (x : Operand) (lo hi : Option Operand) : stK g d f ops { dst, op := .slice t x lo hi none, type := ty, pos, after, guard } l K σ = putK g d f ops dst l K (opE g d f { dst, op := .slice t x lo hi none, type := ty, pos, after, guard } σ) := st_op _ _ _ _ _ (by simp)
theorem s_makeFunc (fn : Fn) (fi ca : Array Operand) : stK g d f ops { dst, op := .makeFunc fn fi ca, type := ty, pos, after, guard } l K σ = putK g d f ops dst l K (opE g d f { dst, op := .makeFunc fn fi ca, type := ty, pos, after, guard } σ) := st_op _ _ _ _ _ (by simp)
theorem s_makeSlice (x y : Operand) : stK g d f ops { dst, op := .makeSlice t x y, type := ty, pos, after, guard } l K σ = putK g d f ops dst l K (opE g d f { dst, op := .makeSlice t x y, type := ty, pos, after, guard } σ) := st_op _ _ _ _ _ (by simp)
theorem s_append (args : Array Operand) (argTypes : Array TypeId) : stK g d f ops { dst, op := .call { callee := .builtin .append, args, argTypes }, type := ty, pos, after, guard } l K σ = putK g d f ops dst l K (opE g d f { dst, op := .call { callee := .builtin .append, args, argTypes }, type := ty, pos, after, guard } σ) := st_op _ _ _ _ _ (by simp)

end
/-- a call of a named function: its contract, or its code -/
noncomputable def callX (g : Cfg) (d f : Nat) (ops : Array Oper) (dst : Option Nat) (l : List Oper) (K : List It) (σ : St) (k : Nat) (args : List AV) : Option (List AV → Option AV) → Option Out
  | some F => retK g d f ops dst l K σ.env (ctxCall F args σ.mem)
  | none => retK g d f ops dst l K σ.env (callo g d k args σ.mem)
theorem callX_some (dst : Option Nat) (ops : Array Oper) (l : List Oper) (K : List It) (σ : St) (k : Nat) (args : List AV) (F : List AV → Option AV) : callX g d f ops dst l K σ k args (some F) = retK g d f ops dst l K σ.env (ctxCall F args σ.mem) := rfl
theorem callX_none (dst : Option Nat) (ops : Array Oper) (l : List Oper) (K : List It) (σ : St) (k : Nat) (args : List AV) : callX g d f ops dst l K σ k args none = retK g d f ops dst l K σ.env (callo g d k args σ.mem) := rfl
theorem s_callF (dst : Option Nat) (pos : String) (after : Array Edge) (ty : TypeId) (guard : Option (Nat × Bool)) (ops : Array Oper) (l : List Oper) (K : List It) (σ : St) (k : Nat) (args : Array Operand) (argTypes : Array TypeId) :
    stK g d f ops { dst, op := .call { callee := .value (.func k), args, argTypes }, type := ty, pos, after, guard } l K σ = callX g d f ops dst l K σ k (args.toList.map fun y => (opnd σ.env y).copy) (lookN k g.ctx) := by
  cases h : lookN k g.ctx with
  | some F => exact s_callC (h := h) ..
  | none =>
    rw [s_call]
    have hc : calleeOf σ.env (.func k) = some (k, []) := rfl
    rw [hc]
    simp [callK, callX]

/-- a loop that is left somewhere -/
theorem k_loop {ι : Type} (S : ι → St) (O : ι → Out) (μ : ι → Nat) {c : Code} {k : Kp} (i : ι) {K : List It} {σ : St} (hk : lookK (f, rid c) g.keep = some k) (hσ : restrict d σ (k.hd, k.bx) = S i)
    (h : ∀ i, Round d k S O μ i (evk g d f c [] (S i))) : evk g d f (.loop c) K σ = runK g d f K (O i) := by
  unfold evk
  rw [loop_ind S O μ i hk hσ (fun i => by rw [evo_evk]; exact h i)]
  rfl

/-- a function's end -/
def retR (P : Program) (d : Nat) (l : List ResultVar) (σ : St) : Option AV :=
  (l.mapM (rsrc P σ.env)).bind fun rs =>
    if !(rs.all fun | .bx k _ _ _ => k.1 == d | _ => true) then none else
    match rs with
    | [r] => RSrc.val σ r
    | rs => if nodupR rs then (rs.mapM fun r => (RSrc.val σ r).bind tupPart).map .tu else none

def valK (d : Nat) (mem : Mem) : Option AV → Option (AV × Mem)
  | some r => some (r.kill (fun k => d < k.1), memKill (fun k => d < k.1) mem)
  | none => none
def endK (P : Program) (d : Nat) (l : List ResultVar) : Option St → Option (AV × Mem)
  | some σ => valK d σ.mem (retR P (d + 1) l σ)
  | none => none
def finK (P : Program) (d : Nat) (l : List ResultVar) (gl : List Gho) : Option Out → Option (AV × Mem)
  | some (.norm σ) => endK P d l (ghoL (d + 1) gl σ)
  | some (.ret σ) => endK P d l (ghoL (d + 1) gl σ)
  | _ => none
theorem fin_ret (P : Program) (d : Nat) (l : List ResultVar) (gl : List Gho) (σ : St) : finK P d l gl (some (.ret σ)) = endK P d l (ghoL (d + 1) gl σ) := rfl
theorem fin_norm (P : Program) (d : Nat) (l : List ResultVar) (gl : List Gho) (σ : St) : finK P d l gl (some (.norm σ)) = endK P d l (ghoL (d + 1) gl σ) := rfl
theorem fin_if (P : Program) (d : Nat) (l : List ResultVar) (gl : List Gho) (c : Prop) [Decidable c] (x y : Option Out) : finK P d l gl (if c then x else y) = if c then finK P d l gl x else finK P d l gl y := by split <;> rfl
theorem end_some (P : Program) (d : Nat) (l : List ResultVar) (σ : St) : endK P d l (some σ) = valK d σ.mem (retR P (d + 1) l σ) := rfl
theorem val_some (d : Nat) (mem : Mem) (r : AV) : valK d mem (some r) = some (r.kill (fun k => d < k.1), memKill (fun k => d < k.1) mem) := rfl
/-- one result, in a slot -/
theorem retR_tmp (P : Program) (d t : Nat) (σ : St) : retR P d [.tmp t] σ = some (σ.env t) := rfl
theorem mem0_kill (p : Key → Bool) : memKill p mem0 = mem0 := by
  funext k
  unfold memKill mem0
  split <;> rfl

theorem evo_start {P : Program} {f : Nat} {args : List AV} {mem : Mem} {fn : Func} {c : Code} (l : List ResultVar) (h0 : lookN f g.ctx = none) (hP : g.P = P) (h1 : P.funcs[f]? = some fn) (h2 : fn.body = some c) (h3 : fnOK g f fn = true) (h4 : args.length ≤ fn.ntmps)
    (h5 : fn.results.toList = l) :
    callo g d f args mem = finK P d l ((lookK (f, atEnd) g.gho).getD []) (evk g (d + 1) f c [] { env := fun t => (args[t]?).getD .dead, mem }) := by
  subst hP
  rw [callo_fn h0 h1 h2 h3 h4, evo_evk]
  have hgho : ∀ σ, ghoAt g (d + 1) f atEnd σ = ghoL (d + 1) ((lookK (f, atEnd) g.gho).getD []) σ := by
    intro σ
    unfold ghoAt
    cases lookK (f, atEnd) g.gho <;> rfl
  have hret : ∀ σ, retVal g.P (d + 1) fn σ = retR g.P (d + 1) l σ := by
    intro σ
    subst h5
    rfl
  have key : ∀ σ, ((ghoAt g (d + 1) f atEnd σ).bind fun σ => (retVal g.P (d + 1) fn σ).bind fun r => some (r.kill (fun k => d < k.1), memKill (fun k => d < k.1) σ.mem)) = endK g.P d l (ghoL (d + 1) ((lookK (f, atEnd) g.gho).getD []) σ) := by
    intro σ
    rw [hgho]
    cases ghoL (d + 1) ((lookK (f, atEnd) g.gho).getD []) σ with
    | none => rfl
    | some σ1 =>
      simp only [Option.bind_some, hret, endK]
      cases retR g.P (d + 1) l σ1 <;> rfl
  cases evk g (d + 1) f c [] { env := fun t => (args[t]?).getD .dead, mem } with
  | none => rfl
  | some o =>
    cases o with
    | norm σ => exact key σ
    | ret σ => exact key σ
    | exit id σ => rfl

@[simp] theorem copy_own : Md.own.copy = .bor := rfl
@[simp] theorem copy_top : Md.top.copy = .bor := rfl
@[simp] theorem copy_shr : Md.shr.copy = .shr := rfl
@[simp] theorem copy_bor : Md.bor.copy = .bor := rfl
@[simp] theorem elem_own : Md.own.elem = .own := rfl
@[simp] theorem elem_top : Md.top.elem = .shr := rfl
@[simp] theorem elem_shr : Md.shr.elem = .shr := rfl
@[simp] theorem elem_bor : Md.bor.elem = .bor := rfl
attribute [simp] k_seq k_block k_skip k_exit k_ret r_nil r_norm r_exit r_ret r_blkN r_blkR r_blkE k_cond k_region ghoK_nil ghoK_cons behK_nil behK_cons behind r_gho o_nil o_cons g_true g_false
  s_move s_assign s_bin s_un s_callF callX_some s_pick s_extract s_alloc s_box s_load s_store s_nilCheck s_fieldAddr s_field s_indexAddr s_build s_buildSlice s_slice s_makeFunc s_makeSlice
  putK_some retK_some upd_get envL_cons envL_nil wants wantV lookK putD kil opnd AV.copy C.copy AV.ofValue C.ofValue scal
  fin_ret fin_norm fin_if end_some val_some retR_tmp ghoL AV.kill C.kill Cfg.tk Ev.toInt Ev.toBool mkAV C.ofD AV.cells C.isDead opE

end Go.Ev
